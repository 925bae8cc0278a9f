/-
  The document's table in memory: Open, Close.
-/
import Derived.Test.YtbkblfhhhhkeaaaRefW1
import Derived.Test.YtbkblfhhhhkeaaaSub
namespace Go.Proofs.Ytbkblfhhhhkeaaa
open Go.RowKit
set_option linter.unusedSimpArgs false
set_option linter.unusedVariables false

theorem take_cells (hs : List Hd) : ∀ n, (hcells hs).take (n * 3) = hcells (hs.take n) := by
  induction hs with
  | nil => intro n; simp [hcells]
  | cons p l ih =>
    intro n
    have e : hcells (p :: l) = .int .i64 p.1 :: .int .i64 p.2.1 :: .int .i64 p.2.2 :: hcells l := rfl
    cases n with
    | zero => simp [hcells]
    | succ n =>
      rw [e, show (n + 1) * 3 = n * 3 + 1 + 1 + 1 by omega]
      simp only [List.take_succ_cons, ih]
      rfl
theorem drop_cells (hs : List Hd) : ∀ n, (hcells hs).drop (n * 3) = hcells (hs.drop n) := by
  induction hs with
  | nil => intro n; simp [hcells]
  | cons p l ih =>
    intro n
    have e : hcells (p :: l) = .int .i64 p.1 :: .int .i64 p.2.1 :: .int .i64 p.2.2 :: hcells l := rfl
    cases n with
    | zero => simp
    | succ n =>
      rw [e, show (n + 1) * 3 = n * 3 + 1 + 1 + 1 by omega]
      simp only [List.drop_succ_cons, ih]
theorem info50b : (Try.prog.info? 50).map (fun i => (i.zero, i.size, i.bytes)) = some (some (.agg #[.int .i64 0, .int .i64 0, .int .i64 0]), 3, 24) := info50

/-- what a call that turns the table alone leaves -/
def RDid (w : World) (r : Nat) (P : Nat → Prop) (hs : List Hd) (w' : World) : Prop := RefT w' r P hs ∧ Chg (· = r) w w'

/-- the list is written anew -/
theorem ref_end {w w3 : World} {r : Nat} {P : Nat → Prop} {hs hs' : List Hd} {a a3 : Option Addr} {cap cap3 : Nat} (h : RefAt w r P hs a cap) (hr : ¬ P r) (hP : ∀ k, w.heap.size ≤ k → P k) (k3 : Below w.heap.size w w3)
    (hl : hs'.length ≤ 64) (hs3 : SlAt w3 (fun k => w.heap.size ≤ k) 50 3 (.slice a3 hs'.length cap3) hs'.length (hcells hs')) : RDid w r P hs' (w3.setCell ⟨r, 0, none⟩ (.slice a3 hs'.length cap3)) := by
  have hlt := h.lt
  have bl := below_keeps k3 h.block hlt
  have hno : ∀ k, k < w3.heap.size → w.heap.size ≤ k → (w3.setCell ⟨r, 0, none⟩ (.slice a3 hs'.length cap3)).heap[k]? = w3.heap[k]? := fun k _ hk => Below.heap_setCell _ _ _ _ (by simp only; omega)
  refine ⟨⟨a3, cap3, ?_, (hs3.keep hno (fun k _ e => e)).rd.mono (fun k _ e => hP k e), hl⟩, ?_⟩
  · rw [block_set bl]; rfl
  · exact (Chg.of_below (own := (· = r)) k3).trans ((Chg.refl _ _).setCell _ _ (fun _ => rfl))

set_option maxHeartbeats 1000000 in
theorem ropen_ok (w : World) (r : Nat) (P : Nat → Prop) (hs : List Hd) (a : Option Addr) (cap : Nat) (i f : Int) (h : RefAt w r P hs a cap) (hr : ¬ P r) (hP : ∀ k, w.heap.size ≤ k → P k) (n : Nat) (hg : IsGap hs n) (hn : n < 64) (hi0 : 1 ≤ i) (hlen2 : hs.length < 64) :
    Calls Try.prog 22 #[.pointer (some ⟨r, 0, none⟩), .int .i64 i, .int .i64 f] w fun e w' => e = .returned (.tuple #[.int .i64 n, .int .i64 0]) ∧ RDid w r P (hs.take n ++ ((n : Int), (i, f)) :: hs.drop n) w' := by
  obtain ⟨i0, hi, hz0, hz1, hz2⟩ := info_parts info50
  have c0 := h.list
  obtain ⟨g1, g2, g3⟩ := hg
  have G2 := Lib.hid g2
  have G3 := Lib.hid g3
  clear g2 g3
  obtain ⟨a1, d1, hs1, r1⟩ := slice_to Try.underlying34 hi hz1 h.rd g1
  obtain ⟨a2, d2, hs2, r2⟩ := slice_from Try.underlying34 hi hz1 h.rd g1
  rw [take_cells] at r1
  rw [drop_cells] at r2
  have hlt := h.lt
  have hi1 : ¬ i < 1 := by omega
  go_enter Try.func22, Try.ntmps22
  go_wp2_with fail
  go_loopw [8] (fun u wr => ∃ k : Nat, k ≤ n ∧ u = .int .i64 k ∧ wr = w) (fun u _ => n - (intOf u).toNat)
  case atStart => exact ⟨0, by omega, rfl, rfl⟩
  case round =>
    obtain ⟨k, hk, rfl, rfl⟩ := hrel
    by_cases hkn : k < n
    · have hlt2 : k < hs.length := by omega
      obtain ⟨g, off, rfl, _, _, x1, x2, x3⟩ := h.get hlt2
      rw [G2.out k hlt2 hkn] at x1
      have j0 : (0 : Int) ≤ (k : Int) := by omega
      have j1 : (k : Int) < (hs.length : Int) := by omega
      clear hs1 hs2
      go_wp2
      go_roundw
      case rel => exact ⟨k + 1, by omega, by go_num, trivial⟩
      case measure => simp [intOf]; omega
    · obtain rfl : k = n := by omega
      have exitB : (∃ g off, a = some ⟨g, off, none⟩ ∧ ∃ y : Int, wr.cell? ⟨g, off + k * 3, none⟩ = some (.int .i64 y) ∧ (y == (k : Int)) = false ∧ (k : Int) < (hs.length : Int)) ∨ ¬ (k : Int) < (hs.length : Int) := by
        by_cases hkl : k < hs.length
        · obtain ⟨g, off, e, _, _, x1, _, _⟩ := h.get hkl
          exact Or.inl ⟨g, off, e, _, x1, by simpa using G3.out hkl, by omega⟩
        · exact Or.inr (by omega)
      have j0 : (0 : Int) ≤ (k : Int) := by omega
      have j64 : ¬ (64 : Int) ≤ (k : Int) := by omega
      rcases exitB with ⟨g, off, rfl, y, x1, y1, j1⟩ | j1
      all_goals
        go_wp2_with (first
          | (at_builtin; refine wpList_append_sl rfl (.tmp 35) (.tmp 41) 34 rfl 50 i0 (.agg #[.int .i64 0, .int .i64 0, .int .i64 0]) 3 24 Try.underlying34 hi hz0 hz1 hz2 rfl (fun j => wr.heap.size ≤ j) _ 0 [] rfl (SlAt.nil _ _ _ _ _) P _ k (hcells (hs.take k)) rfl ?_ (hcells_one _) ?_ ?_ ?_; exact r1.below ((Below.refl _ _).alloc (Nat.le_refl _) _); (unfold maxLen; omega); omega; intro v4 w4 hs4 hc4; rw [Nat.zero_add, List.nil_append] at hs4; obtain ⟨a4, cap4, rfl⟩ := hs4.shape; (have k04 : wr.heap.size ≤ w4.heap.size := by have := hc4.size; simp at this; omega))
          | (at_builtin; refine wpList_append_sl rfl (.tmp 43) (.tmp 48) 34 rfl 50 i0 (.agg #[.int .i64 0, .int .i64 0, .int .i64 0]) 3 24 Try.underlying34 hi hz0 hz1 hz2 rfl (fun j => wr.heap.size ≤ j) _ k (hcells (hs.take k)) rfl ?_ (fun j => j = w4.heap.size) _ 1 [.int .i64 k, .int .i64 i, .int .i64 f] rfl ?_ ?_ ?_ ?_ ?_; exact (hs4.mono (fun j _ e => by rcases e with e | e; exact e; simp at e; omega)).below ((Below.refl _ _).alloc (Nat.le_refl _) _); exact rd_newG rfl rfl (by unfold maxLen; omega); simp [Value.oneCell']; (unfold maxLen; omega); omega; intro v5 w5 hs5 hc5; obtain ⟨a5, cap5, rfl⟩ := hs5.shape; (have k05 : Below wr.heap.size wr w5 := (((Below.refl wr.heap.size wr).alloc (Nat.le_refl _) _).trans (hc4.below (by simp) (fun i hi e => by omega))).trans ((((Chg.refl (fun j => wr.heap.size ≤ j) w4).alloc _).trans hc5).below k04 (fun i hi e => by omega))); (have c05 := (k05.cell (p := ⟨r, 0, none⟩) hlt).trans c0))
          | (at_builtin; refine wpList_append_sl rfl (.tmp 51) (.tmp 57) 34 rfl 50 i0 (.agg #[.int .i64 0, .int .i64 0, .int .i64 0]) 3 24 Try.underlying34 hi hz0 hz1 hz2 rfl (fun j => wr.heap.size ≤ j) _ (k + 1) (hcells (hs.take k) ++ [.int .i64 k, .int .i64 i, .int .i64 f]) rfl ?_ P _ (hs.length - k) (hcells (hs.drop k)) rfl ?_ (hcells_one _) ?_ ?_ ?_; exact hs5.mono (fun j _ e => by rcases e with e | e; exact e; simp at e; omega); exact r2.below k05; (unfold maxLen; omega); omega; intro v6 w6 hs6 hc6; obtain ⟨a6, cap6, rfl⟩ := hs6.shape; (have k06 : Below wr.heap.size wr w6 := k05.trans (hc6.below k05.size (fun i hi e => by omega))); (have bl6 := below_keeps k06 h.block hlt); (have n6 := (cell_of_block bl6 0).trans rfl); (have f6 := free_of_block bl6 0)))
        go_ret2
        have el : (hs.take k ++ ((k : Int), (i, f)) :: hs.drop k).length = k + 1 + (hs.length - k) := by simp; omega
        have ec : hcells (hs.take k) ++ [.int .i64 k, .int .i64 i, .int .i64 f] ++ hcells (hs.drop k) = hcells (hs.take k ++ ((k : Int), (i, f)) :: hs.drop k) := by
          rw [hcells_append, List.append_assoc]; rfl
        rw [ec, ← el] at hs6
        rw [← el]
        exact ⟨rfl, ref_end h hr hP k06 (by omega) (hs6.mono (fun j _ e => by rcases e with e | e; exact e; have := k05.size; omega))⟩
set_option maxHeartbeats 1000000 in
theorem ropen_no (w : World) (r : Nat) (P : Nat → Prop) (hs : List Hd) (a : Option Addr) (cap : Nat) (i f : Int) (h : RefAt w r P hs a cap) (n : Nat) (hg : IsGap hs n) (hno : n = 64 ∨ (n < 64 ∧ i < 1)) :
    Calls Try.prog 22 #[.pointer (some ⟨r, 0, none⟩), .int .i64 i, .int .i64 f] w fun e w' => e = .returned (.tuple #[.int .i64 0, .int .i64 (if n = 64 then 238 else 236)]) ∧ w = w' := by
  have c0 := h.list
  obtain ⟨g1, g2, g3⟩ := hg
  have G2 := Lib.hid g2
  have G3 := Lib.hid g3
  clear g2 g3
  have hlen := h.len
  go_enter Try.func22, Try.ntmps22
  go_wp2_with fail
  go_loopw [8] (fun u wr => ∃ k : Nat, k ≤ n ∧ u = .int .i64 k ∧ wr = w) (fun u _ => n - (intOf u).toNat)
  case atStart => exact ⟨0, by omega, rfl, rfl⟩
  case round =>
    obtain ⟨k, hk, rfl, rfl⟩ := hrel
    by_cases hkn : k < n
    · have hlt2 : k < hs.length := by omega
      obtain ⟨g, off, rfl, _, _, x1, x2, x3⟩ := h.get hlt2
      rw [G2.out k hlt2 hkn] at x1
      have j0 : (0 : Int) ≤ (k : Int) := by omega
      have j1 : (k : Int) < (hs.length : Int) := by omega
      clear hno
      go_wp2
      go_roundw
      case rel => exact ⟨k + 1, by omega, by go_num, trivial⟩
      case measure => simp [intOf]; omega
    · obtain rfl : k = n := by omega
      have exitB : (∃ g off, a = some ⟨g, off, none⟩ ∧ ∃ y : Int, wr.cell? ⟨g, off + k * 3, none⟩ = some (.int .i64 y) ∧ (y == (k : Int)) = false ∧ (k : Int) < (hs.length : Int)) ∨ ¬ (k : Int) < (hs.length : Int) := by
        by_cases hkl : k < hs.length
        · obtain ⟨g, off, e, _, _, x1, _, _⟩ := h.get hkl
          exact Or.inl ⟨g, off, e, _, x1, by simpa using G3.out hkl, by omega⟩
        · exact Or.inr (by omega)
      have j0 : (0 : Int) ≤ (k : Int) := by omega
      rcases hno with rfl | ⟨hk64, hi1⟩
      · have j64 : (64 : Int) ≤ ((64 : Nat) : Int) := by omega
        have jl : ¬ ((64 : Nat) : Int) < (hs.length : Int) := by omega
        go_wp2
        go_ret2
        exact ⟨rfl, rfl⟩
      · have j64 : ¬ (64 : Int) ≤ (k : Int) := by omega
        have hne : ¬ k = 64 := by omega
        rcases exitB with ⟨g, off, rfl, y, x1, y1, j1⟩ | j1
        all_goals
          go_wp2
          go_ret2
          exact ⟨by simp [hne], rfl⟩
set_option maxHeartbeats 1000000 in
theorem rclose_no (w : World) (r : Nat) (P : Nat → Prop) (hs : List Hd) (a : Option Addr) (cap : Nat) (n : Int) (h : RefAt w r P hs a cap) (hn : findIx hs n = -1) :
    Calls Try.prog 23 #[.pointer (some ⟨r, 0, none⟩), .int .i64 n] w fun e w' => e = .returned (.tuple #[.int .i64 0, .bool false, .int .i64 237]) ∧ Below w.heap.size w w' := by
  have HN := Lib.hid hn
  clear hn
  go_enter Try.func23, Try.ntmps23
  go_wp2_with fail
  refine (find_any _ _ _ _ _ _ n h).mono ?_
  rw [HN.out]
  rintro e w1 ⟨rfl, k1⟩
  go_wp2_with fail
  go_ret3
  exact ⟨rfl, k1⟩
set_option maxHeartbeats 1000000 in
theorem rclose_ok (w : World) (r : Nat) (P : Nat → Prop) (hs : List Hd) (a : Option Addr) (cap : Nat) (n : Int) (h : RefAt w r P hs a cap) (hr : ¬ P r) (hP : ∀ k, w.heap.size ≤ k → P k) (k : Nat) (x : Hd) (hn : findIx hs n = k) (hx : hs[k]? = some x) :
    Calls Try.prog 23 #[.pointer (some ⟨r, 0, none⟩), .int .i64 n] w fun e w' => e = .returned (.tuple #[.int .i64 x.2.1, .bool (cntAll (hs.take k ++ hs.drop (k + 1)) x.2.1 == 0), .int .i64 0]) ∧ RDid w r P (hs.take k ++ hs.drop (k + 1)) w' := by
  obtain ⟨i0, hi, hz0, hz1, hz2⟩ := info_parts info50
  have HN := Lib.hid hn
  clear hn
  obtain ⟨hkl, rfl⟩ := List.getElem?_eq_some_iff.1 hx
  clear hx
  have hlen := h.len
  have hlt := h.lt
  go_enter Try.func23, Try.ntmps23
  go_wp2_with fail
  refine (find_any _ _ _ _ _ _ n h).mono ?_
  rw [HN.out]
  rintro e w1 ⟨rfl, k1⟩
  have h1 := h.below k1
  have hP1 : ∀ k, w1.heap.size ≤ k → P k := fun k hk => hP k (by have := k1.size; omega)
  have hlt1 := h1.lt
  have c0 := h1.list
  obtain ⟨a1, d1, hs1, r1⟩ := slice_to Try.underlying34 hi hz1 h1.rd (k := k) (by omega)
  obtain ⟨a2, d2, hs2, r2⟩ := slice_from Try.underlying34 hi hz1 h1.rd (k := k + 1) (by omega)
  rw [take_cells] at r1
  rw [drop_cells] at r2
  obtain ⟨g, off, rfl, _, _, x1, x2, x3⟩ := h1.get hkl
  have j0 : (0 : Int) ≤ (k : Int) := by omega
  have j1 : (k : Int) < (hs.length : Int) := by omega
  have e1 : (((k + 1 : Nat) : Int)) = (k : Int) + 1 := by omega
  rw [e1] at hs2
  clear e1
  go_wp2_with (first
          | (at_builtin; refine wpList_append_sl rfl (.tmp 23) (.tmp 29) 34 rfl 50 i0 (.agg #[.int .i64 0, .int .i64 0, .int .i64 0]) 3 24 Try.underlying34 hi hz0 hz1 hz2 rfl (fun j => w1.heap.size ≤ j) _ 0 [] rfl (SlAt.nil _ _ _ _ _) P _ k (hcells (hs.take k)) rfl ?_ (hcells_one _) ?_ ?_ ?_; exact r1.below ((Below.refl _ _).alloc (Nat.le_refl _) _); (unfold maxLen; omega); omega; intro v4 w4 hs4 hc4; rw [Nat.zero_add, List.nil_append] at hs4; obtain ⟨a4, cap4, rfl⟩ := hs4.shape; (have k04 : Below w1.heap.size w1 w4 := (((Below.refl w1.heap.size w1).alloc (Nat.le_refl _) _).trans (hc4.below (by simp) (fun i hi e => by omega)))); (have c04 := (k04.cell (p := ⟨r, 0, none⟩) hlt1).trans c0))
          | (at_builtin; refine wpList_append_sl rfl (.tmp 32) (.tmp 39) 34 rfl 50 i0 (.agg #[.int .i64 0, .int .i64 0, .int .i64 0]) 3 24 Try.underlying34 hi hz0 hz1 hz2 rfl (fun j => w1.heap.size ≤ j) _ k (hcells (hs.take k)) rfl ?_ P _ (hs.length - (k + 1)) (hcells (hs.drop (k + 1))) rfl ?_ (hcells_one _) ?_ ?_ ?_; exact hs4.mono (fun j _ e => by rcases e with e | e; exact e; simp at e; omega); exact r2.below k04; (unfold maxLen; omega); omega; intro v6 w6 hs6 hc6; obtain ⟨a6, cap6, rfl⟩ := hs6.shape; (have k06 : Below w1.heap.size w1 w6 := k04.trans (hc6.below k04.size (fun i hi e => by omega))); (have bl6 := below_keeps k06 h1.block hlt1); (have n6 := (cell_of_block bl6 0).trans rfl); (have f6 := free_of_block bl6 0)))
  have el : (hs.take k ++ hs.drop (k + 1)).length = k + (hs.length - (k + 1)) := by simp; omega
  have ec : hcells (hs.take k) ++ hcells (hs.drop (k + 1)) = hcells (hs.take k ++ hs.drop (k + 1)) := by rw [hcells_append]
  rw [ec] at hs6
  have hs7 := hs6.mono (own2 := fun j => w1.heap.size ≤ j) (fun j _ e => by rcases e with e | e; exact e; have := k04.size; omega)
  have EL := Lib.hid el
  clear hs6 hs4 hc4 hc6 ec n6 f6 bl6 el
  have hend := ref_end (hs' := hs.take k ++ hs.drop (k + 1)) (a3 := a6) (cap3 := cap6) h1 hr hP1 k06 (by have := EL.out; omega) (by rw [EL.out]; exact hs7)
  rw [EL.out] at hend
  obtain ⟨⟨a8, cap8, h8⟩, k8⟩ := hend
  refine (rcount_any _ _ _ _ _ _ _ h8).mono ?_
  generalize w6.setCell ⟨r, 0, none⟩ (.slice a6 (k + (hs.length - (k + 1))) cap6) = w8 at *
  rintro e w9 ⟨rfl, k9⟩
  go_wp2_with fail
  go_ret3
  exact ⟨rfl, ⟨_, _, h8.below k9⟩, ((Chg.of_below k1).trans k8).trans (Chg.of_below k9)⟩
end Go.Proofs.Ytbkblfhhhhkeaaa
