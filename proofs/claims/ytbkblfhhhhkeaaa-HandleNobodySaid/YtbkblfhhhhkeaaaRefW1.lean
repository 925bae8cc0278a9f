/-
  The document's table in memory: find, Get, Count.
-/
import Derived.Test.YtbkblfhhhhkeaaaRefPlain
import Derived.Test.YtbkblfhhhhkeaaaSl
namespace Go.Proofs.Ytbkblfhhhhkeaaa
open Go.RowKit
set_option linter.unusedSimpArgs false
set_option linter.unusedVariables false

theorem hcells_len (hs : List Hd) : (hcells hs).length = hs.length * 3 := by
  induction hs with
  | nil => rfl
  | cons p l ih =>
    have e : hcells (p :: l) = .int .i64 p.1 :: .int .i64 p.2.1 :: .int .i64 p.2.2 :: hcells l := rfl
    rw [e]; simp [ih]; omega
theorem hcells_get (hs : List Hd) : ∀ n (h : n < hs.length), (hcells hs)[n * 3]? = some (.int .i64 hs[n].1) ∧ (hcells hs)[n * 3 + 1]? = some (.int .i64 hs[n].2.1) ∧ (hcells hs)[n * 3 + 2]? = some (.int .i64 hs[n].2.2) := by
  induction hs with
  | nil => intro n h; simp at h
  | cons p l ih =>
    intro n h
    have e : hcells (p :: l) = .int .i64 p.1 :: .int .i64 p.2.1 :: .int .i64 p.2.2 :: hcells l := rfl
    rw [e]
    cases n with
    | zero => simp
    | succ n =>
      have := ih n (by simpa using h)
      rw [show (n + 1) * 3 = n * 3 + 1 + 1 + 1 by omega, show n * 3 + 1 + 1 + 1 + 1 = (n * 3 + 1) + 1 + 1 + 1 by omega, show n * 3 + 1 + 1 + 1 + 2 = (n * 3 + 2) + 1 + 1 + 1 by omega]
      simpa using this
theorem hcells_one (hs : List Hd) : ∀ u ∈ hcells hs, u.oneCell' = true := by
  intro u hu
  simp only [hcells, List.mem_flatMap, List.mem_cons, List.not_mem_nil, or_false] at hu
  obtain ⟨p, _, rfl | rfl | rfl⟩ := hu <;> rfl

theorem SlAt.shape {w : World} {own : Nat → Prop} {e : TypeId} {size : Nat} {v : Value} {n : Nat} {xs : List Value} (h : SlAt w own e size v n xs) : ∃ a cap, v = .slice a n cap := by
  obtain ⟨h1, h2⟩ := h
  rcases h2 with ⟨a, rfl, rfl⟩ | ⟨g, off, cap, cur, rfl, _⟩
  · exact ⟨a, 0, rfl⟩
  · exact ⟨_, cap, rfl⟩
structure RefAt (w : World) (r : Nat) (P : Nat → Prop) (hs : List Hd) (a : Option Addr) (cap : Nat) : Prop where
  block : w.heap[r]? = some (.cells #[.slice a hs.length cap] 36 (0, 0))
  rd : RdAt w P 3 (.slice a hs.length cap) hs.length (hcells hs)
  len : hs.length ≤ 64
def RefT (w : World) (r : Nat) (P : Nat → Prop) (hs : List Hd) : Prop := ∃ a cap, RefAt w r P hs a cap
section
variable {w w' : World} {r : Nat} {P : Nat → Prop} {hs : List Hd} {a : Option Addr} {cap : Nat}
theorem RefAt.keep {own : Nat → Prop} (h : RefAt w r P hs a cap) (k : Chg own w w') (h1 : ¬ own r) (h2 : ∀ i, i < w.heap.size → P i → ¬ own i) : RefAt w' r P hs a cap :=
  ⟨k.keeps h.block h1, h.rd.keep (fun i hi hp => k.block i hi (h2 i hi hp)) (fun _ _ x => x) k.size, h.len⟩
theorem RefT.keep {own : Nat → Prop} (h : RefT w r P hs) (k : Chg own w w') (h1 : ¬ own r) (h2 : ∀ i, i < w.heap.size → P i → ¬ own i) : RefT w' r P hs := by
  obtain ⟨a, cap, h⟩ := h
  exact ⟨a, cap, h.keep k h1 h2⟩
theorem RefAt.below (h : RefAt w r P hs a cap) (k : Below w.heap.size w w') : RefAt w' r P hs a cap := h.keep (Chg.of_below (own := fun _ => False) k) (fun e => e) (fun _ _ _ e => e)
theorem RefT.below (h : RefT w r P hs) (k : Below w.heap.size w w') : RefT w' r P hs := h.keep (Chg.of_below (own := fun _ => False) k) (fun e => e) (fun _ _ _ e => e)
theorem RefAt.lt (h : RefAt w r P hs a cap) : r < w.heap.size := lt_of_block h.block
theorem RefAt.list (h : RefAt w r P hs a cap) : w.cell? ⟨r, 0, none⟩ = some (.slice a hs.length cap) := by rw [cell_of_block h.block]; rfl
theorem RefAt.free (h : RefAt w r P hs a cap) : w.frozen? ⟨r, 0, none⟩ = false := free_of_block h.block 0
theorem RefAt.get (h : RefAt w r P hs a cap) {k : Nat} (hk : k < hs.length) :
    ∃ g off, a = some ⟨g, off, none⟩ ∧ P g ∧ g < w.heap.size ∧ w.cell? ⟨g, off + k * 3, none⟩ = some (.int .i64 hs[k].1) ∧ w.cell? ⟨g, off + k * 3 + 1, none⟩ = some (.int .i64 hs[k].2.1) ∧ w.cell? ⟨g, off + k * 3 + 2, none⟩ = some (.int .i64 hs[k].2.2) := by
  obtain ⟨g, off, e, hp, hg, hc⟩ := h.rd.get (by omega)
  obtain ⟨c1, c2, c3⟩ := hcells_get hs k hk
  exact ⟨g, off, e, hp, hg, hc _ _ c1, hc _ _ c2, hc _ _ c3⟩
end

set_option maxHeartbeats 400000 in
theorem find_any (w : World) (r : Nat) (P : Nat → Prop) (hs : List Hd) (a : Option Addr) (cap : Nat) (n : Int) (h : RefAt w r P hs a cap) :
    Calls Try.prog 30 #[.pointer (some ⟨r, 0, none⟩), .int .i64 n] w fun e w' => e = .returned (.int .i64 (findIx hs n)) ∧ Below w.heap.size w w' := by
  have c0 := h.list
  have hlen := h.len
  go_enter Try.func30, Try.ntmps30
  go_wp2_with fail
  go_loopw [12] (fun i wr => ∃ k : Nat, k ≤ hs.length ∧ i = .int .i64 k ∧ Hid (∀ j (_ : j < hs.length), j < k → hs[j].1 ≠ n) ∧ Below w.heap.size w wr) (fun i _ => hs.length - (intOf i).toNat)
  case atStart => exact ⟨0, by omega, rfl, fun j _ hj => by omega, Below.refl _ _⟩
  case round =>
    obtain ⟨k, hk, rfl, hpre, hbw⟩ := hrel
    by_cases hlt : k < hs.length
    · obtain ⟨g, off, rfl, _, _, d1, d2, d3⟩ := (h.below hbw).get hlt
      have i0 : (0 : Int) ≤ (k : Int) := by omega
      have i1 : (k : Int) < (hs.length : Int) := by omega
      have hsz := hbw.size
      by_cases h0 : hs[k].1 = n
      · have h0' : (hs[k].1 == n) = true := by simp [h0]
        have hf := findIx_at hlt h0 hpre.out
        have HF := Lib.hid hf
        clear h0 hf
        go_wp2
        go_ret
        exact ⟨by rw [HF.out]; rfl, hbw.alloc hsz _⟩
      · have h0' : (hs[k].1 == n) = false := by simp [h0]
        have hpre' : Hid (∀ j (_ : j < hs.length), j < k + 1 → hs[j].1 ≠ n) := by
          intro j hj1 hj
          by_cases e : j = k
          · subst e; exact h0
          · exact hpre.out j hj1 (by omega)
        clear h0
        go_wp2
        go_roundw
        case rel => exact ⟨k + 1, by omega, by go_num, hpre', hbw.alloc hsz _⟩
        case measure => simp [intOf]; omega
    · have hf := Lib.hid (findIx_none (hs := hs) (n := n) (fun p hp => by
        obtain ⟨j, hj, rfl⟩ := List.mem_iff_getElem.1 hp
        exact hpre.out j hj (by omega)))
      go_wp2
      go_ret
      exact ⟨by rw [hf.out]; rfl, hbw⟩

def cntAll (hs : List Hd) (n : Int) : Int := countTo hs n hs.length
set_option maxHeartbeats 400000 in
theorem rcount_any (w : World) (r : Nat) (P : Nat → Prop) (hs : List Hd) (a : Option Addr) (cap : Nat) (n : Int) (h : RefAt w r P hs a cap) :
    Calls Try.prog 25 #[.pointer (some ⟨r, 0, none⟩), .int .i64 n] w fun e w' => e = .returned (.int .i64 (cntAll hs n)) ∧ Below w.heap.size w w' := by
  have c0 := h.list
  have hlen := h.len
  go_enter Try.func25, Try.ntmps25
  go_wp2_with fail
  go_loopw [5, 13] (fun c i wr => ∃ k : Nat, k ≤ hs.length ∧ i = .int .i64 k ∧ c = .int .i64 (countTo hs n k) ∧ Below w.heap.size w wr) (fun _ i _ => hs.length - (intOf i).toNat)
  case atStart => exact ⟨0, by omega, rfl, by simp [countTo], Below.refl _ _⟩
  case round =>
    obtain ⟨k, hk, rfl, rfl, hbw⟩ := hrel
    have hb := countTo_le hs n k
    by_cases hlt : k < hs.length
    · obtain ⟨g, off, rfl, _, _, d1, d2, d3⟩ := (h.below hbw).get hlt
      have i0 : (0 : Int) ≤ (k : Int) := by omega
      have i1 : (k : Int) < (hs.length : Int) := by omega
      have hsz := hbw.size
      have hstep : Hid (countTo hs n (k + 1) = countTo hs n k + if hs[k].2.1 == n then 1 else 0) := by
        show _ = _
        unfold countTo
        rw [List.take_succ_eq_append_getElem hlt, List.countP_append]
        by_cases e : hs[k].2.1 == n <;> simp [e]
      cases h0' : hs[k].2.1 == n with
      | true =>
        rw [h0'] at hstep
        go_wp2
        go_roundw
        case rel => exact ⟨k + 1, by omega, by go_num, by rw [hstep.out]; rfl, hbw.alloc hsz _⟩
        case measure => simp [intOf]; omega
      | false =>
        rw [h0'] at hstep
        go_wp2
        go_roundw
        case rel => exact ⟨k + 1, by omega, by go_num, by rw [hstep.out]; simp, hbw.alloc hsz _⟩
        case measure => simp [intOf]; omega
    · obtain rfl : k = hs.length := by omega
      go_wp2
      go_ret
      exact ⟨rfl, hbw⟩

theorem rget_no (w : World) (r : Nat) (P : Nat → Prop) (hs : List Hd) (a : Option Addr) (cap : Nat) (n : Int) (h : RefAt w r P hs a cap) (hn : findIx hs n = -1) :
    Calls Try.prog 24 #[.pointer (some ⟨r, 0, none⟩), .int .i64 n] w fun e w' => e = .returned (.tuple #[.agg #[.int .i64 0, .int .i64 0, .int .i64 0], .int .i64 237]) ∧ Below w.heap.size w w' := by
  have HN := Lib.hid hn
  clear hn
  have kb : Below w.heap.size w (w.alloc (.cells #[.int .i64 0, .int .i64 0, .int .i64 0] 50)) := (Below.refl _ _).alloc (Nat.le_refl _) _
  have hb := h.below kb
  go_enter Try.func24, Try.ntmps24
  go_wp2_with fail
  refine (find_any _ _ _ _ _ _ n hb).mono ?_
  rw [HN.out]
  rintro e w1 ⟨rfl, k1⟩
  have bl := below_keeps k1 (block_new w (.cells #[.int .i64 0, .int .i64 0, .int .i64 0] 50)) (by simp)
  have z0 := (cell_of_block bl 0).trans rfl
  have z1 := (cell_of_block bl 1).trans rfl
  have z2 := (cell_of_block bl 2).trans rfl
  have f0 := free_of_block bl 0
  have f1 := free_of_block bl 1
  have f2 := free_of_block bl 2
  go_wp2_with fail
  refine bodyPost_ret (v := .tuple #[.agg #[.int .i64 0, .int .i64 0, .int .i64 0], .int .i64 237]) (by simp [results, Try.results24, go_sem, *]) rfl ?_
  exact ⟨rfl, (((kb.trans (k1.mono (by simp))).setCell (p := ⟨w.heap.size, 0, none⟩) (Nat.le_refl _) _).setCell (p := ⟨w.heap.size, 1, none⟩) (Nat.le_refl _) _).setCell (p := ⟨w.heap.size, 2, none⟩) (Nat.le_refl _) _⟩
theorem rget_yes (w : World) (r : Nat) (P : Nat → Prop) (hs : List Hd) (a : Option Addr) (cap : Nat) (n : Int) (h : RefAt w r P hs a cap) (i : Nat) (x : Hd) (hn : findIx hs n = i) (hx : hs[i]? = some x) :
    Calls Try.prog 24 #[.pointer (some ⟨r, 0, none⟩), .int .i64 n] w fun e w' => e = .returned (.tuple #[.agg #[.int .i64 x.1, .int .i64 x.2.1, .int .i64 x.2.2], .int .i64 0]) ∧ Below w.heap.size w w' := by
  have HN := Lib.hid hn
  clear hn
  obtain ⟨hi, rfl⟩ := List.getElem?_eq_some_iff.1 hx
  clear hx
  have kb : Below w.heap.size w (w.alloc (.cells #[.int .i64 0, .int .i64 0, .int .i64 0] 50)) := (Below.refl _ _).alloc (Nat.le_refl _) _
  have hb := h.below kb
  have hlen := h.len
  go_enter Try.func24, Try.ntmps24
  go_wp2_with fail
  refine (find_any _ _ _ _ _ _ n hb).mono ?_
  rw [HN.out]
  rintro e w1 ⟨rfl, k1⟩
  have h1 := hb.below k1
  have c0 := h1.list
  obtain ⟨g, off, rfl, _, _, d1, d2, d3⟩ := h1.get hi
  have i0 : (0 : Int) ≤ (i : Int) := by omega
  have i1 : (i : Int) < (hs.length : Int) := by omega
  have bl := below_keeps k1 (block_new w (.cells #[.int .i64 0, .int .i64 0, .int .i64 0] 50)) (by simp)
  have z0 := (cell_of_block bl 0).trans rfl
  have z1 := (cell_of_block bl 1).trans rfl
  have z2 := (cell_of_block bl 2).trans rfl
  have f0 := free_of_block bl 0
  have f1 := free_of_block bl 1
  have f2 := free_of_block bl 2
  go_wp2_with fail
  refine bodyPost_ret (v := .tuple #[.agg #[.int .i64 hs[i].1, .int .i64 hs[i].2.1, .int .i64 hs[i].2.2], .int .i64 0]) (by simp [results, Try.results24, go_sem, *]) rfl ?_
  exact ⟨rfl, (((kb.trans (k1.mono (by simp))).setCell (p := ⟨w.heap.size, 0, none⟩) (Nat.le_refl _) _).setCell (p := ⟨w.heap.size, 1, none⟩) (Nat.le_refl _) _).setCell (p := ⟨w.heap.size, 2, none⟩) (Nat.le_refl _) _⟩
end Go.Proofs.Ytbkblfhhhhkeaaa
