/-
  The walks of package handle: what New, is, Get, Open, Close do to a table in memory.
-/
import Derived.Test.YtbkblfhhhhkeaaaTab
import Derived.Deep.LoopGhost
import Derived.BigQuiet
import Derived.Deep.DeepMust
namespace Go.Proofs.Ytbkblfhhhhkeaaa
open Go.RowKit

def isOpen (l : List (Int × Int)) (n : Int) : Bool := decide (0 ≤ n) && (decide (n < 64) && decide (0 < (nth l n.toNat).1))

set_option maxHeartbeats 400000 in
theorem is_any (w : World) (b : Nat) (l : List (Int × Int)) (n : Int) (h : TabAt w b l) :
    Calls Try.prog 21 #[.pointer (some ⟨b, 0, none⟩), .int .i64 n] w fun e w' => e = .returned (.bool (isOpen l n)) ∧ w = w' := by
  have hm := h.made
  have hi := @TabAt.ino _ _ _ h n.toNat
  by_cases h0 : 0 ≤ n
  · by_cases h1 : n < 64
    · have hi := hi (by omega)
      go_enter Try.func21, Try.ntmps21
      go_wp2
      go_ret
      exact ⟨by simp [isOpen, h0, h1], rfl⟩
    · clear hi
      go_enter Try.func21, Try.ntmps21
      go_wp2
      go_ret
      exact ⟨by simp [isOpen, show ¬ n < 64 by omega], rfl⟩
  · clear hi
    go_enter Try.func21, Try.ntmps21
    go_wp2
    go_ret
    exact ⟨by simp [isOpen, show ¬ 0 ≤ n by omega], rfl⟩

theorem new_any (w : World) :
    Calls Try.prog 7 #[] w fun e w' => e = .returned (.pointer (some ⟨w.heap.size, 0, none⟩)) ∧ TabAt w' w.heap.size noTab ∧ Below w.heap.size w w' := by
  have hz : ∀ w, (zeroValue 47).run Try.prog w = .ok (.agg ((.bool false :: slots noTab).toArray)) w := fun _ => by kernel_rfl
  go_enter Try.func7, Try.ntmps7
  go_wp2
  go_ret
  exact ⟨rfl, ⟨noTab_len, block_new _ _⟩, (Below.refl _ _).alloc (Nat.le_refl _) _⟩

set_option maxHeartbeats 400000 in
theorem get_yes (w : World) (b : Nat) (l : List (Int × Int)) (n : Int) (h : TabAt w b l) (hn : isOpen l n = true) :
    Calls Try.prog 15 #[.pointer (some ⟨b, 0, none⟩), .int .i64 n] w fun e w' =>
      e = .returned (.tuple #[.agg #[.int .i64 n, .int .i64 (nth l n.toNat).1, .int .i64 (nth l n.toNat).2], .int .i64 0]) ∧ Below w.heap.size w w' := by
  have hx : 0 ≤ n ∧ n < 64 := by simp [isOpen] at hn; omega
  obtain ⟨h0, h1⟩ := hx
  have hi := h.ino (n := n.toNat) (by omega)
  have hf := h.flag (n := n.toNat) (by omega)
  have hb := h.lt
  go_enter Try.func15, Try.ntmps15
  go_wp2_with (go_at_call 21; refine (is_any _ b l n (h.alloc _)).mono ?_; rintro e w' ⟨rfl, rfl⟩)
  go_region
  go_wp2
  exact bodyPost_ret (v := .tuple #[.agg #[.int .i64 n, .int .i64 (nth l n.toNat).1, .int .i64 (nth l n.toNat).2], .int .i64 0]) (by simp [results, Try.results15, go_sem]) rfl ⟨rfl, ((Below.refl _ _).alloc (Nat.le_refl _) _).drew⟩

theorem get_no (w : World) (b : Nat) (l : List (Int × Int)) (n : Int) (h : TabAt w b l) (hn : isOpen l n = false) :
    Calls Try.prog 15 #[.pointer (some ⟨b, 0, none⟩), .int .i64 n] w fun e w' =>
      e = .returned (.tuple #[.agg #[.int .i64 0, .int .i64 0, .int .i64 0], .int .i64 237]) ∧ Below w.heap.size w w' := by
  go_enter Try.func15, Try.ntmps15
  go_wp2_with (go_at_call 21; refine (is_any _ b l n (h.alloc _)).mono ?_; rintro e w' ⟨rfl, rfl⟩)
  exact bodyPost_ret (v := .tuple #[.agg #[.int .i64 0, .int .i64 0, .int .i64 0], .int .i64 237]) (by simp [results, Try.results15, go_sem]) rfl ⟨rfl, ((Below.refl _ _).alloc (Nat.le_refl _) _)⟩

theorem free_any (w : World) (i f : Int) :
    Calls Try.prog 20 #[.agg #[.int .i64 i, .int .i64 f]] w fun e w' => e = .returned (.bool (i == 0)) ∧ Below w.heap.size w w' := by
  go_enter Try.func20, Try.ntmps20
  go_wp2
  go_ret
  exact ⟨rfl, (Below.refl _ _).alloc (Nat.le_refl _) _⟩

set_option maxHeartbeats 400000 in
theorem index_any (w : World) (b : Nat) (l : List (Int × Int)) (h : TabAt w b l) :
    Calls Try.prog 19 #[.slice (some ⟨b, 1, none⟩) 64 64, .func (.func 20) #[] #[]] w fun e w' => e = .returned (.int .i64 (freeIx l)) ∧ Below w.heap.size w w' := by
  go_enter Try.func19, Try.ntmps19
  go_wp2
  go_loopw [8] (fun i wr => ∃ k : Nat, k ≤ 64 ∧ i = .int .i64 k ∧ Hid (∀ j, j < k → (nth l j).1 ≠ 0) ∧ Below w.heap.size w wr) (fun i _ => 64 - (intOf i).toNat)
  case atStart => exact ⟨0, by omega, rfl, fun j hj => by omega, Below.refl _ _⟩
  case round =>
    obtain ⟨k, hk, rfl, hpre, hbw⟩ := hrel
    by_cases hlt : k < 64
    · have hr := h.below hbw h.lt
      have hi := hr.ino (n := k) hlt
      have hf := hr.flag (n := k) hlt
      have hb := hr.lt
      by_cases h0 : (nth l k).1 = 0
      · have h0' : ((nth l k).1 == 0) = true := by simp [h0]
        clear h0
        go_wp2_with (go_at_call 20; refine (free_any _ _ _).mono ?_; rintro e w' ⟨rfl, hb'⟩)
        go_ret
        exact ⟨by rw [freeIx_some (by rw [h.len]; exact hlt) (by simpa using h0') hpre.out]; rfl, hbw.trans (hb'.mono hbw.size)⟩
      · have h0' : ((nth l k).1 == 0) = false := by simp [h0]
        have hpre' : Hid (∀ j, j < k + 1 → (nth l j).1 ≠ 0) := by
          intro j hj
          by_cases e : j = k
          · subst e; exact h0
          · exact hpre.out j (by omega)
        clear h0
        go_wp2_with (go_at_call 20; refine (free_any _ _ _).mono ?_; rintro e w' ⟨rfl, hb'⟩)
        go_roundw
        case rel => exact ⟨k + 1, by omega, by go_num, hpre', hbw.trans (hb'.mono hbw.size)⟩
        case measure => simp [intOf]; omega
    · go_wp2
      go_ret
      exact ⟨by rw [freeIx_none (by rw [h.len]; intro j hj; exact hpre.out j (by omega))]; rfl, hbw⟩

set_option maxHeartbeats 400000 in
theorem open_full (w : World) (b : Nat) (l : List (Int × Int)) (i f : Int) (h : TabAt w b l) (hn : freeIx l < 0) :
    Calls Try.prog 9 #[.pointer (some ⟨b, 0, none⟩), .int .i64 i, .int .i64 f] w fun e w' => e = .returned (.tuple #[.int .i64 0, .int .i64 238]) ∧ Below w.heap.size w w' := by
  have hm := h.made
  go_enter Try.func9, Try.ntmps9
  go_wp2_with (go_at_call 19; refine (index_any _ b l h).mono ?_; rintro e w' ⟨rfl, hb'⟩)
  go_ret2
  exact ⟨rfl, hb'⟩

set_option maxHeartbeats 400000 in
theorem open_inval (w : World) (b : Nat) (l : List (Int × Int)) (i f : Int) (h : TabAt w b l) (hn : 0 ≤ freeIx l) (hi : i < 1) :
    Calls Try.prog 9 #[.pointer (some ⟨b, 0, none⟩), .int .i64 i, .int .i64 f] w fun e w' => e = .returned (.tuple #[.int .i64 0, .int .i64 236]) ∧ Below w.heap.size w w' := by
  have hm := h.made
  go_enter Try.func9, Try.ntmps9
  go_wp2_with (go_at_call 19; refine (index_any _ b l h).mono ?_; rintro e w' ⟨rfl, hb'⟩)
  go_ret2
  exact ⟨rfl, hb'⟩

set_option maxHeartbeats 400000 in
theorem open_ok (w : World) (b : Nat) (l : List (Int × Int)) (i f : Int) (h : TabAt w b l) (hn : 0 ≤ freeIx l) (hn2 : freeIx l < 64) (hi : ¬ i < 1) :
    Calls Try.prog 9 #[.pointer (some ⟨b, 0, none⟩), .int .i64 i, .int .i64 f] w fun e w' =>
      e = .returned (.tuple #[.int .i64 (freeIx l), .int .i64 0]) ∧ TabAt w' b (l.set (freeIx l).toNat (i, f)) ∧ Chg (· = b) w w' := by
  have hm := h.made
  go_enter Try.func9, Try.ntmps9
  go_wp2_with (go_at_call 19; refine (index_any _ b l h).mono ?_; rintro e w' ⟨rfl, hb'⟩; (have h' := h.below hb' h.lt); (have hc1 := h'.ino (n := (freeIx l).toNat) (by omega)); (have hc2 := h'.flag (n := (freeIx l).toNat) (by omega)); (have hfr := h'.free (1 + (freeIx l).toNat * 2)); (have hfr2 := h'.free (1 + (freeIx l).toNat * 2 + 1)))
  go_ret2
  exact ⟨rfl, h'.store _ _ _, by exact (Chg.setCell (own := (· = b)) (Chg.setCell (own := (· = b)) (Chg.of_below hb') _ _ (fun _ => rfl)) _ _ (fun _ => rfl))⟩

/-- those that are open, of the first k -/
def opensTo (l : List (Int × Int)) : Nat → List (Int × (Int × Int))
  | 0 => []
  | k + 1 => opensTo l k ++ (if 0 < (nth l k).1 then [((k : Int), nth l k)] else [])
def opens (l : List (Int × Int)) : List (Int × (Int × Int)) := opensTo l 64
def hcells (l : List (Int × (Int × Int))) : List Value := l.flatMap fun p => [.int .i64 p.1, .int .i64 p.2.1, .int .i64 p.2.2]
theorem hcells_append (l m : List (Int × (Int × Int))) : hcells (l ++ m) = hcells l ++ hcells m := by simp [hcells]
theorem opensTo_len (l : List (Int × Int)) : ∀ k, (opensTo l k).length ≤ k
  | 0 => by simp [opensTo]
  | k + 1 => by have := opensTo_len l k; simp only [opensTo]; split <;> simp <;> omega

theorem opens_len (l : List (Int × Int)) : (opens l).length ≤ 64 := opensTo_len l 64

theorem info50 : (Try.prog.info? 50).map (fun i => (i.zero, i.size, i.bytes)) = some (some (.agg #[.int .i64 0, .int .i64 0, .int .i64 0]), 3, 24) := by kernel_rfl

set_option maxHeartbeats 400000 in
theorem all_any (w : World) (b : Nat) (l : List (Int × Int)) (h : TabAt w b l) :
    Calls Try.prog 16 #[.pointer (some ⟨b, 0, none⟩)] w fun e w' => TellsRow w.heap.size 50 3 (opens l).length (hcells (opens l)) e w' ∧ Below w.heap.size w w' := by
  obtain ⟨i0, hi, hz0, hz1, hz2⟩ := info_parts info50
  have hm := h.made
  go_enter Try.func16, Try.ntmps16
  go_wp2
  go_loopw [3, 16] (fun v i wr => ∃ k : Nat, k ≤ 64 ∧ i = .int .i64 k ∧ wr.ownsRow w.heap.size 50 3 v (opensTo l k).length (hcells (opensTo l k)) ∧ Below w.heap.size w wr) (fun _ i _ => 64 - (intOf i).toNat)
  case atStart => exact ⟨0, by omega, rfl, World.ownsRow_nil _ _ _ _, Below.refl _ _⟩
  case round =>
    obtain ⟨k, hk, rfl, hown, hbw⟩ := hrel
    by_cases hlt : k < 64
    · have hr := h.below hbw h.lt
      have hlen := opensTo_len l k
      by_cases h0 : isOpen l k = true
      · have h0' : 0 < (nth l k).1 := by simp [isOpen] at h0; exact h0.2
        have hnx : Hid (opensTo l (k + 1) = opensTo l k ++ [((k : Int), nth l k)]) := by simp [Hid, opensTo, h0']
        have H0 := Lib.hid h0; clear h0 h0'
        go_wp2_with (first | (go_at_call 15; refine (get_yes _ b l k hr H0.out).mono ?_; rintro e w2 ⟨rfl, hb2⟩; (have hown2 := ownsRow_below hown hb2); (have hsz := hb2.size); (have hsz2 := hbw.size)) | (at_builtin; go_must (refine wpList_append_new rfl _ _ 34 rfl w.heap.size 50 i0 (.agg #[.int .i64 0, .int .i64 0, .int .i64 0]) 3 24 Try.underlying34 hi hz0 hz1 hz2 rfl (by decide) _ _ _ rfl _ (hown2.alloc _) 1 1 _ [.int .i64 k, .int .i64 (nth l k).1, .int .i64 (nth l k).2] _ rfl ?_ rfl ?_ ?_ ?_ ?_ ?_); simp; simp [Value.oneCell']; (unfold maxLen; omega); omega; (simp; omega); intro v' w' hown' hbl'))
        go_roundw
        case rel => exact ⟨k + 1, by omega, by go_num, by rw [hnx.out, hcells_append]; simpa [hcells, List.length_append] using hown', (below_grow hbw (Nat.le_refl _) hb2).trans (Below.trans ((Below.refl _ _).alloc (by omega) _) hbl')⟩
        case measure => simp [intOf]; omega
      · have h0' : ¬ 0 < (nth l k).1 := by simp [isOpen] at h0; have := h0 (by omega); simpa using this
        have hnx : Hid (opensTo l (k + 1) = opensTo l k) := by simp [Hid, opensTo, h0']
        have H0 := Lib.hid (show isOpen l k = false by simpa using h0); clear h0 h0'
        go_wp2_with (go_at_call 15; refine (get_no _ b l k hr H0.out).mono ?_; rintro e w2 ⟨rfl, hb2⟩; (have hown2 := ownsRow_below hown hb2); (have hsz := hb2.size); (have hsz2 := hbw.size))
        go_roundw
        case rel => exact ⟨k + 1, by omega, by go_num, by rw [hnx.out]; exact hown2.alloc _, (below_grow hbw (Nat.le_refl _) hb2).alloc (by omega) _⟩
        case measure => simp [intOf]; omega
    · go_wp2
      go_ret
      obtain rfl : k = 64 := by omega
      exact ⟨tellsRow_mk hown, hbw⟩

/-- how many of the first k of these are on an inode -/
def countTo (hs : List (Int × (Int × Int))) (i : Int) (k : Nat) : Int := ((hs.take k).countP fun p => p.2.1 == i : Nat)
theorem countTo_le (hs : List (Int × (Int × Int))) (i : Int) (k : Nat) : 0 ≤ countTo hs i k ∧ countTo hs i k ≤ k := by
  unfold countTo
  have h1 : (hs.take k).countP (fun p => p.2.1 == i) ≤ (hs.take k).length := List.countP_le_length
  have h2 : (hs.take k).length ≤ k := List.length_take_le _ _
  omega
theorem countTo_succ (hs : List (Int × (Int × Int))) (i : Int) (k : Nat) (h : k < hs.length) : countTo hs i (k + 1) = countTo hs i k + (if (hs[k].2.1 == i) = true then 1 else 0) := by
  unfold countTo
  rw [List.take_succ_eq_append_getElem h, List.countP_append, List.countP_singleton]
  split <;> simp
def countOf (l : List (Int × Int)) (i : Int) : Int := countTo (opens l) i (opens l).length
theorem hcells_at (hs : List (Int × (Int × Int))) : ∀ k (h : k < hs.length), (hcells hs)[k * 3]? = some (.int .i64 hs[k].1) ∧ (hcells hs)[k * 3 + 1]? = some (.int .i64 hs[k].2.1) ∧ (hcells hs)[k * 3 + 2]? = some (.int .i64 hs[k].2.2) := by
  induction hs with
  | nil => intro k h; simp at h
  | cons p hs ih =>
    intro k h
    have e : hcells (p :: hs) = .int .i64 p.1 :: .int .i64 p.2.1 :: .int .i64 p.2.2 :: hcells hs := rfl
    rw [e]
    cases k with
    | zero => simp
    | succ k =>
      have := ih k (by simpa using h)
      rw [show (k + 1) * 3 = k * 3 + 1 + 1 + 1 by omega]
      simpa using this

set_option maxHeartbeats 400000 in
theorem count_any (w : World) (b : Nat) (l : List (Int × Int)) (i : Int) (h : TabAt w b l) :
    Calls Try.prog 10 #[.pointer (some ⟨b, 0, none⟩), .int .i64 i] w fun e w' => e = .returned (.int .i64 (countOf l i)) ∧ Below w.heap.size w w' := by
  have hn := opens_len l
  have hall := Lib.hid (all_any w b l h)
  unfold countOf
  generalize opens l = hs at *
  go_enter Try.func10, Try.ntmps10
  go_wp2_with (go_at_call 16; refine hall.out.mono ?_; rintro e w1 ⟨⟨a, cap, rfl, hown⟩, hb1⟩)
  go_loopw [5, 11] (fun c j wr => ∃ k : Nat, k ≤ hs.length ∧ j = .int .i64 k ∧ c = .int .i64 (countTo hs i k) ∧ Below w1.heap.size w1 wr) (fun _ j _ => hs.length - (intOf j).toNat)
  case atStart => exact ⟨0, by omega, rfl, by simp [countTo], Below.refl _ _⟩
  case round =>
    obtain ⟨k, hk, rfl, rfl, hbw⟩ := hrel
    have hc := countTo_le hs i k
    by_cases hlt : k < hs.length
    · obtain ⟨g, rfl, hg1, hg2, hcs⟩ := ownsRow_some hown (by omega)
      obtain ⟨q0, q1, q2⟩ := hcells_at _ k hlt
      have c0 := hcs _ _ q0; have c1 := hcs _ _ q1; have c2 := hcs _ _ q2
      rw [← hbw.cell (p := ⟨g, _, none⟩) hg2] at c0 c1 c2
      have hg3 := Nat.lt_of_lt_of_le hg2 hbw.size
      have hcs' := Lib.hid (countTo_succ hs i k hlt)
      clear hcs q0 q1 q2
      generalize hp : hs[k] = p at *
      clear hp
      by_cases he : p.2.1 = i
      · have he' : (p.2.1 == i) = true := by simp [he]
        have hs2 : Hid (countTo hs i (k + 1) = countTo hs i k + 1) := by have := hcs'.out; rw [if_pos he'] at this; exact this
        clear he hcs'
        go_wp2
        go_roundw
        case rel => exact ⟨k + 1, by omega, by go_num, by rw [hs2.out], hbw.alloc (by have := hbw.size; omega) _⟩
        case measure => simp [intOf]; omega
      · have he' : (p.2.1 == i) = false := by simp [he]
        have hs2 : Hid (countTo hs i (k + 1) = countTo hs i k) := by have := hcs'.out; rw [if_neg (by simp [he])] at this; simpa [Hid] using this
        clear he hcs'
        go_wp2
        go_roundw
        case rel => exact ⟨k + 1, by omega, by go_num, by rw [hs2.out], hbw.alloc (by have := hbw.size; omega) _⟩
        case measure => simp [intOf]; omega
    · obtain rfl : k = hs.length := by omega
      go_wp2
      go_ret
      exact ⟨rfl, below_grow hb1 (Nat.le_refl _) hbw⟩

theorem close_no (w : World) (b : Nat) (l : List (Int × Int)) (n : Int) (h : TabAt w b l) (hn : isOpen l n = false) :
    Calls Try.prog 11 #[.pointer (some ⟨b, 0, none⟩), .int .i64 n] w fun e w' => e = .returned (.tuple #[.int .i64 0, .bool false, .int .i64 237]) ∧ w = w' := by
  have H := Lib.hid hn; clear hn
  go_enter Try.func11, Try.ntmps11
  go_wp2_with (go_at_call 21; refine (is_any _ b l n h).mono ?_; rintro e w' ⟨rfl, rfl⟩; rw [H.out])
  go_ret3
  exact ⟨rfl, rfl⟩

set_option maxHeartbeats 400000 in
theorem close_yes (w : World) (b : Nat) (l : List (Int × Int)) (n : Int) (h : TabAt w b l) (hn : isOpen l n = true) :
    Calls Try.prog 11 #[.pointer (some ⟨b, 0, none⟩), .int .i64 n] w fun e w' =>
      e = .returned (.tuple #[.int .i64 (nth l n.toNat).1, .bool (countOf (l.set n.toNat (0, 0)) (nth l n.toNat).1 == 0), .int .i64 0]) ∧ TabAt w' b (l.set n.toNat (0, 0)) ∧ Chg (· = b) w w' := by
  have hx : 0 ≤ n ∧ n < 64 := by simp [isOpen] at hn; omega
  obtain ⟨h0, h1⟩ := hx
  have hc1 := h.ino (n := n.toNat) (by omega)
  have hc2 := h.flag (n := n.toNat) (by omega)
  have hf1 := h.free (1 + n.toNat * 2)
  have hf2 := h.free (1 + n.toNat * 2 + 1)
  have H := Lib.hid hn; clear hn
  go_enter Try.func11, Try.ntmps11
  go_wp2_with (first | (go_at_call 21; refine (is_any _ b l n h).mono ?_; rintro e w' ⟨rfl, rfl⟩; rw [H.out]) | (go_at_call 10; refine (count_any _ b _ _ (h.store _ _ _)).mono ?_; rintro e w' ⟨rfl, hb'⟩))
  go_ret3
  exact ⟨rfl, (h.store _ _ _).below hb' (h.store _ _ _).lt, Chg.trans (Chg.setCell (own := (· = b)) (Chg.setCell (own := (· = b)) (Chg.refl _ _) _ _ (fun _ => rfl)) _ _ (fun _ => rfl)) (Chg.of_below hb')⟩

/-- Open where the n-th is the first free one -/
theorem open_at (n : Nat) (l : List (Int × Int)) (i f : Int) (hn : freeIx l = n) (hi : 1 ≤ i) (w : World) (b : Nat) (h : TabAt w b l) :
    Calls Try.prog 9 #[.pointer (some ⟨b, 0, none⟩), .int .i64 i, .int .i64 f] w fun e w' =>
      e = .returned (.tuple #[.int .i64 n, .int .i64 0]) ∧ TabAt w' b (l.set n (i, f)) ∧ Chg (· = b) w w' := by
  have hl := freeIx_lt (l := l)
  have hlen := h.len
  have := open_ok w b l i f h (by omega) (by omega) (by omega)
  rw [hn] at this
  exact this
theorem close_at (n : Nat) (l : List (Int × Int)) (i : Int) (last : Bool) (hn : isOpen l n = true) (hi : (nth l n).1 = i) (hl : (countOf (l.set n (0, 0)) i == 0) = last) (w : World) (b : Nat) (h : TabAt w b l) :
    Calls Try.prog 11 #[.pointer (some ⟨b, 0, none⟩), .int .i64 n] w fun e w' =>
      e = .returned (.tuple #[.int .i64 i, .bool last, .int .i64 0]) ∧ TabAt w' b (l.set n (0, 0)) ∧ Chg (· = b) w w' := by
  have := close_yes w b l n h hn
  simp only [Int.toNat_natCast, hi, hl] at this
  exact this

def tA : List (Int × Int) := noTab.set 0 (5, 0)
def tB : List (Int × Int) := tA.set 1 (5, 0)
def tC : List (Int × Int) := tB.set 2 (7, 0)
def tD : List (Int × Int) := tC.set 0 (0, 0)
def tE : List (Int × Int) := tD.set 0 (9, 0)

set_option maxHeartbeats 400000 in
theorem awake_any (w : World) : Calls Try.prog 8 #[] w fun e w' => e = .returned (.bool true) ∧ Below w.heap.size w w' := by
  go_enter Try.func8, Try.ntmps8
  go_wp2_with fail
  refine (new_any _).mono ?_; rintro e w1 ⟨rfl, h1, k1⟩
  go_wp2_with fail
  refine (open_at 0 noTab 5 0 (by decide +kernel) (by omega) _ _ h1).mono ?_; rintro e w2 ⟨rfl, h2, k2⟩
  go_wp2_with fail
  refine (open_at 1 tA 5 0 (by decide +kernel) (by omega) _ _ h2).mono ?_; rintro e w3 ⟨rfl, h3, k3⟩
  go_wp2_with fail
  refine (open_at 2 tB 7 0 (by decide +kernel) (by omega) _ _ h3).mono ?_; rintro e w4 ⟨rfl, h4, k4⟩
  go_wp2_with fail
  refine (close_at 0 tC 5 false (by decide +kernel) (by decide +kernel) (by decide +kernel) _ _ h4).mono ?_; rintro e w5 ⟨rfl, h5, k5⟩
  go_wp2_with fail
  refine (open_at 0 tD 9 0 (by decide +kernel) (by omega) _ _ h5).mono ?_; rintro e w6 ⟨rfl, h6, k6⟩
  go_wp2_with fail
  refine (close_at 1 tE 5 true (by decide +kernel) (by decide +kernel) (by decide +kernel) _ _ h6).mono ?_; rintro e w7 ⟨rfl, h7, k7⟩
  go_wp2_with fail
  go_ret
  exact ⟨rfl, k1.trans ((k2.belowAt h1.lt).trans ((k3.belowAt h2.lt).trans ((k4.belowAt h3.lt).trans ((k5.belowAt h4.lt).trans ((k6.belowAt h5.lt).trans (k7.belowAt h6.lt))))))⟩
end Go.Proofs.Ytbkblfhhhhkeaaa
