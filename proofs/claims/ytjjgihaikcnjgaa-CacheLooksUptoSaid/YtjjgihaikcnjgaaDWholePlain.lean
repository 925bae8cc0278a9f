/-
  DiskWhole: the plain law: what a crash leaves of a sector.
-/
import Derived.Test.YtjjgihaikcnjgaaDLaw
namespace Go.Proofs.Ytjjgihaikcnjgaa
open Go.RowKit
set_option linter.unusedSimpArgs false
set_option linter.unusedVariables false
set_option maxRecDepth 100000

/-- sector n of a platter -/
def secOf (size : Int) (pl : List Int) (n : Int) : List Int := (pl.drop (n * size).toNat).take size.toNat
theorem base_secOf (s : DS) (n : Int) : s.base n = secOf s.size s.platter n := rfl

theorem secOf_put {s : DS} (ok : s.Ok) {pl : List Int} (hl : pl.length = s.platter.length) {p : Int × List Int} (hp : p ∈ s.pending) {n : Int} (n0 : 0 ≤ n) (n1 : n < s.count) :
    secOf s.size (putP s.size pl p) n = if p.1 = n then p.2 else secOf s.size pl n := by
  obtain ⟨h0, h1, h2⟩ := ok.pend p hp
  have room := ok.room h0 h1 h2
  have roomn := ok.room (l := p.2) n0 n1 h2
  have s0 := ok.size0
  have hlen : p.2.length = s.size.toNat := by omega
  by_cases e : p.1 = n
  · rw [if_pos e]
    apply List.ext_getElem?
    intro j
    simp only [secOf, putP, List.getElem?_take, List.getElem?_drop]
    rw [getElem?_splice _ _ _ (by rw [hl]; exact room), e]
    by_cases hj : j < s.size.toNat
    · rw [if_pos hj, if_neg (by omega), if_pos (by omega)]
      congr 1; omega
    · rw [if_neg hj, List.getElem?_eq_none (by omega)]
  · rw [if_neg e]
    have sep : (n * s.size).toNat + s.size.toNat ≤ (p.1 * s.size).toNat ∨ (p.1 * s.size).toNat + s.size.toNat ≤ (n * s.size).toNat := by
      have m0 : 0 ≤ n * s.size := Int.mul_nonneg n0 (by omega)
      have m1 : 0 ≤ p.1 * s.size := Int.mul_nonneg h0 (by omega)
      rcases Int.lt_or_gt_of_ne e with h | h
      · right
        have := Int.mul_le_mul_of_nonneg_right (show p.1 + 1 ≤ n by omega) (show 0 ≤ s.size by omega)
        rw [Int.add_mul, Int.one_mul] at this; omega
      · left
        have := Int.mul_le_mul_of_nonneg_right (show n + 1 ≤ p.1 by omega) (show 0 ≤ s.size by omega)
        rw [Int.add_mul, Int.one_mul] at this; omega
    apply List.ext_getElem?
    intro j
    simp only [secOf, putP, List.getElem?_take, List.getElem?_drop]
    by_cases hj : j < s.size.toNat
    · rw [if_pos hj, if_pos hj, getElem?_splice _ _ _ (by rw [hl]; exact room)]
      rcases sep with h | h
      · rw [if_pos (by omega)]
      · rw [if_neg (by omega), if_neg (by omega)]
    · rw [if_neg hj, if_neg hj]

/-- .. of many writes: as it was, or one of them -/
theorem secOf_foldl {s : DS} (ok : s.Ok) {n : Int} (n0 : 0 ≤ n) (n1 : n < s.count) : ∀ (l : List (Int × List Int)) (pl : List Int), (∀ p ∈ l, p ∈ s.pending) → pl.length = s.platter.length →
    secOf s.size (l.foldl (putP s.size) pl) n = secOf s.size pl n ∨ ∃ p ∈ l, p.1 = n ∧ secOf s.size (l.foldl (putP s.size) pl) n = p.2
  | [], pl, _, _ => Or.inl rfl
  | p :: l, pl, hm, hl => by
    have hp := hm p List.mem_cons_self
    have hl' := putP_len ok hp pl hl
    rcases secOf_foldl ok n0 n1 l (putP s.size pl p) (fun q hq => hm q (List.mem_cons_of_mem _ hq)) hl' with h | ⟨q, hq, e, h⟩
    · rw [List.foldl_cons, h, secOf_put ok hl hp n0 n1]
      by_cases e : p.1 = n
      · rw [if_pos e]; exact Or.inr ⟨p, List.mem_cons_self, e, rfl⟩
      · rw [if_neg e]; exact Or.inl rfl
    · exact Or.inr ⟨q, List.mem_cons_of_mem _ hq, e, h⟩

/-- every write kept -/
def allInts (n : Nat) : List Int := (List.range n).map fun i : Nat => (i : Int)
theorem allInts_succ (n : Nat) : allInts (n + 1) = allInts n ++ [(n : Int)] := by simp [allInts, List.range_succ]
theorem allInts_ok (n : Nat) : KeepOk n (allInts n) := by
  intro i hi
  simp only [allInts, List.length_map, List.length_range] at hi
  simp only [allInts, List.getElem_map, List.getElem_range]
  omega
theorem kept_all (s : DS) : s.kept (allInts s.pending.length) = s.pending := by
  apply List.ext_getElem
  · simp [DS.kept, allInts]
  · intro i h1 h2
    simp [DS.kept, allInts, List.getD_eq_getElem?_getD, List.getElem?_eq_getElem h2]
theorem crash_all (s : DS) (ha : s.alive = true) : (s.crash (allInts s.pending.length)).platter = s.flush.platter := by
  simp only [DS.crash, kept_all, DS.flush, ha, if_true]

/-! ### the law's own list of sectors -/
theorem read_law (w : World) (col : Nat → Nat) (c b : Nat) (s : DS) (n : Int) (h : DiskAt w 86 col c b s) (hc : 1 < c) (ok : s.Ok) (hnm : Norm w col) (hp : s.pending.length ≤ 1073741824) (hn0 : 0 ≤ n) (hn1 : n < s.count) :
    Calls Try.prog 23 #[.pointer (some ⟨b, 0, none⟩), .int .i64 n] w fun e w' => (∃ a cap, e = .returned (.tuple #[.slice a (s.sector n).length cap, .int .i64 0]) ∧ RdAt w' (Nil0 col) 1 (.slice a (s.sector n).length cap) (s.sector n).length (bcells (s.sector n))) ∧ DiskAt w' 86 col c b s.read ∧ Step c col col w w' := by
  refine (read_ok w col c b s n h hc ok hp hn0 hn1).mono ?_
  rintro e w' ⟨a, cap, rfl, hs, hd, hk⟩
  exact ⟨⟨a, cap, rfl, fresh_rd hnm hs.rd⟩, hd, Ext.refl _ _, hk, hnm.grow hk.size⟩
/-- a part of a slice of bytes -/
theorem rd_part {w : World} {own : Nat → Prop} {g off N cap : Nat} {pl : List Int} (h : RdAt w own 1 (.slice (some ⟨g, off, none⟩) N cap) N (bcells pl)) (hN : 0 < N) (p m : Nat) (hm : p + m ≤ N) :
    RdAt w own 1 (.slice (some ⟨g, off + p, none⟩) m (cap - p)) ((pl.drop p).take m).length (bcells ((pl.drop p).take m)) := by
  obtain ⟨hl, a, cap', e, h1, h2, h3⟩ := h
  injection e with e1 _ e3
  subst e1 e3
  simp only [bcells_len, Nat.mul_one] at hl
  have hlen : ((pl.drop p).take m).length = m := by simp; omega
  obtain ⟨g', off', e, hg, hgl, hc⟩ := h3 hN
  injection e with e
  injection e with e1 e2
  subst e1 e2
  refine ⟨by simp, _, _, by rw [hlen], by rw [hlen]; omega, by omega, fun _ => ⟨g, off + p, rfl, hg, hgl, fun j u hj => ?_⟩⟩
  have : (bcells pl)[p + j]? = some u := by
    simp only [bcells, List.map_take, List.map_drop, List.getElem?_take, List.getElem?_drop] at hj
    split at hj
    · exact hj
    · cases hj
  rw [Nat.add_assoc]
  exact hc _ _ this
end Go.Proofs.Ytjjgihaikcnjgaa
