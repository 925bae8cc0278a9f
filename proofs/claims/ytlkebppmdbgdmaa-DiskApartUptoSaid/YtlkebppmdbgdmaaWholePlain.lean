/-
  DiskWhole: the plain law: what a crash leaves of a sector.
-/
import Derived.Test.YtlkebppmdbgdmaaStops
namespace Go.Proofs.Ytlkebppmdbgdmaa
open Go.RowKit
set_option linter.unusedSimpArgs false
set_option linter.unusedVariables false

/-- sector n of a platter -/
def secOf (size : Int) (pl : List Int) (n : Int) : List Int := (pl.drop (n * size).toNat).take size.toNat
theorem base_secOf (s : DS) (n : Int) : s.base n = secOf s.size s.platter n := rfl

theorem secOf_put {s : DS} (ok : s.Ok) {pl : List Int} (hl : pl.length = s.platter.length) {p : Int × List Int} (hp : p ∈ s.pending) {n : Int} (n0 : 0 ≤ n) (n1 : n < s.count) :
    secOf s.size (putP s.size pl p) n = if p.1 = n then p.2 else secOf s.size pl n := by
  obtain ⟨h0, h1, h2⟩ := ok.pend p hp
  have room := ok.room h0 h1 h2
  have roomn := ok.room (l := p.2) n0 n1 h2
  have s0 := ok.size0
  have hlen : p.2.length = s.size.toNat := by omega
  by_cases e : p.1 = n
  · rw [if_pos e]
    apply List.ext_getElem?
    intro j
    simp only [secOf, putP, List.getElem?_take, List.getElem?_drop]
    rw [getElem?_splice _ _ _ (by rw [hl]; exact room), e]
    by_cases hj : j < s.size.toNat
    · rw [if_pos hj, if_neg (by omega), if_pos (by omega)]
      congr 1; omega
    · rw [if_neg hj, List.getElem?_eq_none (by omega)]
  · rw [if_neg e]
    have sep : (n * s.size).toNat + s.size.toNat ≤ (p.1 * s.size).toNat ∨ (p.1 * s.size).toNat + s.size.toNat ≤ (n * s.size).toNat := by
      have m0 : 0 ≤ n * s.size := Int.mul_nonneg n0 (by omega)
      have m1 : 0 ≤ p.1 * s.size := Int.mul_nonneg h0 (by omega)
      rcases Int.lt_or_gt_of_ne e with h | h
      · right
        have := Int.mul_le_mul_of_nonneg_right (show p.1 + 1 ≤ n by omega) (show 0 ≤ s.size by omega)
        rw [Int.add_mul, Int.one_mul] at this; omega
      · left
        have := Int.mul_le_mul_of_nonneg_right (show n + 1 ≤ p.1 by omega) (show 0 ≤ s.size by omega)
        rw [Int.add_mul, Int.one_mul] at this; omega
    apply List.ext_getElem?
    intro j
    simp only [secOf, putP, List.getElem?_take, List.getElem?_drop]
    by_cases hj : j < s.size.toNat
    · rw [if_pos hj, if_pos hj, getElem?_splice _ _ _ (by rw [hl]; exact room)]
      rcases sep with h | h
      · rw [if_pos (by omega)]
      · rw [if_neg (by omega), if_neg (by omega)]
    · rw [if_neg hj, if_neg hj]

/-- .. of many writes: as it was, or one of them -/
theorem secOf_foldl {s : DS} (ok : s.Ok) {n : Int} (n0 : 0 ≤ n) (n1 : n < s.count) : ∀ (l : List (Int × List Int)) (pl : List Int), (∀ p ∈ l, p ∈ s.pending) → pl.length = s.platter.length →
    secOf s.size (l.foldl (putP s.size) pl) n = secOf s.size pl n ∨ ∃ p ∈ l, p.1 = n ∧ secOf s.size (l.foldl (putP s.size) pl) n = p.2
  | [], pl, _, _ => Or.inl rfl
  | p :: l, pl, hm, hl => by
    have hp := hm p List.mem_cons_self
    have hl' := putP_len ok hp pl hl
    rcases secOf_foldl ok n0 n1 l (putP s.size pl p) (fun q hq => hm q (List.mem_cons_of_mem _ hq)) hl' with h | ⟨q, hq, e, h⟩
    · rw [List.foldl_cons, h, secOf_put ok hl hp n0 n1]
      by_cases e : p.1 = n
      · rw [if_pos e]; exact Or.inr ⟨p, List.mem_cons_self, e, rfl⟩
      · rw [if_neg e]; exact Or.inl rfl
    · exact Or.inr ⟨q, List.mem_cons_of_mem _ hq, e, h⟩

/-- what the law finds of a sector behind a crash -/
def okTo (s : DS) (n : Int) (l : List Int) (i : Nat) : Bool := (l == s.base n) || (s.pending.take i).any fun p => p.1 == n && l == p.2
theorem okTo_zero (s : DS) (n : Int) (l : List Int) : okTo s n l 0 = (l == s.base n) := by simp [okTo]
theorem okTo_succ (s : DS) (n : Int) (l : List Int) (i : Nat) (h : i < s.pending.length) : okTo s n l (i + 1) = (okTo s n l i || (s.pending[i].1 == n && l == s.pending[i].2)) := by
  unfold okTo
  rw [List.take_succ_eq_append_getElem h]
  simp only [List.any_append, List.any_cons, List.any_nil, Bool.or_false, Bool.or_assoc]
theorem okTo_crash {s : DS} (ok : s.Ok) {keep : List Int} (hk : KeepOk s.pending.length keep) {n : Int} (n0 : 0 ≤ n) (n1 : n < s.count) : okTo s n ((s.crash keep).base n) s.pending.length = true := by
  have hb : (s.crash keep).base n = secOf s.size ((s.kept keep).foldl (putP s.size) s.platter) n := rfl
  unfold okTo
  rw [hb, base_secOf, List.take_length]
  rcases secOf_foldl ok n0 n1 (s.kept keep) s.platter (kept_mem hk) rfl with h | ⟨p, hp, e, h⟩
  · rw [h]; simp
  · have : (s.pending.any fun p => p.1 == n && secOf s.size ((s.kept keep).foldl (putP s.size) s.platter) n == p.2) = true := by
      rw [List.any_eq_true]
      exact ⟨p, kept_mem hk p hp, by simp [e, h]⟩
    rw [this]; simp

/-- every write kept -/
def allInts (n : Nat) : List Int := (List.range n).map fun i : Nat => (i : Int)
theorem allInts_succ (n : Nat) : allInts (n + 1) = allInts n ++ [(n : Int)] := by simp [allInts, List.range_succ]
theorem allInts_ok (n : Nat) : KeepOk n (allInts n) := by
  intro i hi
  simp only [allInts, List.length_map, List.length_range] at hi
  simp only [allInts, List.getElem_map, List.getElem_range]
  omega
theorem kept_all (s : DS) : s.kept (allInts s.pending.length) = s.pending := by
  apply List.ext_getElem
  · simp [DS.kept, allInts]
  · intro i h1 h2
    simp [DS.kept, allInts, List.getD_eq_getElem?_getD, List.getElem?_eq_getElem h2]
theorem crash_all (s : DS) (ha : s.alive = true) : (s.crash (allInts s.pending.length)).platter = s.flush.platter := by
  simp only [DS.crash, kept_all, DS.flush, ha, if_true]

/-! ### the law's own list of sectors -/
def WrAt (w : World) (col : Nat → Nat) (v : Value) (l : List (Int × List Int)) : Prop := ∃ qs, SlAt w (fun k => col k = 5) 57 2 v l.length qs ∧ PendC w (fun k => col k + 1) l qs
theorem WrAt.nil (w : World) (col : Nat → Nat) : WrAt w col (.slice none 0 0) [] := ⟨[], SlAt.nil _ _ _ _ _, rfl⟩
theorem WrAt.step {w w' : World} {c : Nat} {col col' : Nat → Nat} {v : Value} {l : List (Int × List Int)} (k : Step c col col' w w') (hc : 8 < c) (h : WrAt w col v l) : WrAt w' col' v l := by
  obtain ⟨qs, h1, h2⟩ := h
  refine ⟨qs, h1.keep (fun i hi e => k.chg.block i hi (fun e' => by unfold inC at e'; omega)) (fun i hi e => (k.ext i hi).trans e), PendC.keep (fun i hi e => k.chg.block i hi (fun e' => by unfold inC at e'; omega)) (fun i hi => by rw [k.ext i hi]) k.chg.size h2⟩
theorem WrAt.below {w w' : World} {col : Nat → Nat} {v : Value} {l : List (Int × List Int)} (hn : Norm w col) (k : Below w.heap.size w w') (h : WrAt w col v l) : WrAt w' col v l := WrAt.step (Step.below (c := 10) hn k) (by omega) h
theorem WrAt.shape {w : World} {col : Nat → Nat} {v : Value} {l : List (Int × List Int)} (h : WrAt w col v l) : ∃ a cap, v = .slice a l.length cap := by
  obtain ⟨qs, h1, _⟩ := h
  exact h1.shape
def col5 (col : Nat → Nat) (n m z : Nat) (k : Nat) : Nat := if k < n then col k else if z ≤ k then 0 else if k = m then 5 else 0
theorem wr_end {w w' : World} {o : Obj} {col : Nat → Nat} {v : Value} {qs : List Value} {l : List (Int × List Int)} {N : Int} {bs : List Int} {a : Option Addr} {cap : Nat} (hn : Norm w col) (hp : PendC w (fun k => col k + 1) l qs) (hb : RdAt w (Nil0 col) 1 (.slice a bs.length cap) bs.length (bcells bs))
    (hs : SlAt w' (fun k => col k = 5 ∨ k = (w.alloc o).heap.size) 57 2 v (l.length + 1) (qs ++ [.int .i64 N, .slice a bs.length cap])) (hc : Chg (fun k => col k = 5) (w.alloc o) w') :
    ∃ col', WrAt w' col' v (l ++ [(N, bs)]) ∧ Step 5 col col' w w' := by
  have hz := hc.size
  rw [World.size_alloc] at hz hs
  have hext : Ext w.heap.size col (col5 col w.heap.size (w.heap.size + 1) w'.heap.size) := fun k hk => by simp only [col5]; rw [if_pos hk]
  have hch : Chg (fun k => col k = 5) w w' := ((Chg.refl _ w).alloc _).trans hc
  have hp' := PendC.append (col := fun k => col k + 1) (p := (N, bs)) (hb.mono (fun k _ e => by unfold Nil0 at e; omega)) hp
  have hs' : SlAt w' (fun k => col5 col w.heap.size (w.heap.size + 1) w'.heap.size k = 5) 57 2 v (l ++ [(N, bs)]).length (qs ++ [.int .i64 N, .slice a bs.length cap]) := by
    rw [List.length_append]
    refine hs.mono (fun k hk e => ?_)
    rcases e with e | e
    · by_cases h : k < w.heap.size
      · rw [hext k h]; exact e
      · have := hn k (by omega); omega
    · subst e; simp only [col5]; rw [if_neg (by omega), if_neg (by omega)]; simp
  refine ⟨_, ⟨_, hs', PendC.keep (fun k hk e => hch.block k hk (by omega)) (fun k hk => by rw [hext k hk]) hch.size hp'⟩, hext, hch.mono (fun k _ e => by unfold inC; omega), fun k hk => ?_⟩
  simp only [col5]; rw [if_neg (by omega), if_pos hk]

theorem read_law (w : World) (col : Nat → Nat) (c b : Nat) (s : DS) (n : Int) (h : DiskAt w 69 col c b s) (hc : 1 < c) (ok : s.Ok) (hnm : Norm w col) (hp : s.pending.length ≤ 1073741824) (hn0 : 0 ≤ n) (hn1 : n < s.count) :
    Calls Try.prog 18 #[.pointer (some ⟨b, 0, none⟩), .int .i64 n] w fun e w' => (∃ a cap, e = .returned (.tuple #[.slice a (s.sector n).length cap, .int .i64 0]) ∧ RdAt w' (Nil0 col) 1 (.slice a (s.sector n).length cap) (s.sector n).length (bcells (s.sector n))) ∧ DiskAt w' 69 col c b s.read ∧ Step c col col w w' := by
  refine (read_ok w col c b s n h hc ok hp hn0 hn1).mono ?_
  rintro e w' ⟨a, cap, rfl, hs, hd, hk⟩
  exact ⟨⟨a, cap, rfl, fresh_rd hnm hs.rd⟩, hd, Ext.refl _ _, hk, hnm.grow hk.size⟩
theorem fork_law (w : World) (col : Nat → Nat) (c b : Nat) (s : DS) (h : DiskAt w 69 col c b s) (ok : s.Ok) (hp : s.pending.length ≤ 1073741824) (c' : Nat) (hc' : 1 < c') :
    Calls Try.prog 29 #[.pointer (some ⟨b, 0, none⟩)] w fun e w' => ∃ b' col', e = .returned (.pointer (some ⟨b', 0, none⟩)) ∧ DiskAt w' 69 col' c' b' s ∧ Step c' col col' w w' := by
  obtain ⟨m0, m1⟩ := mul_bounds (a := s.size) (b := s.count) (by have := ok.size0; omega) ok.size1 (by have := ok.count0; omega) ok.count1
  refine (fork_any w col c b s h (by have := ok.size0; omega) hp (by have := ok.plen; omega) c' hc').mono ?_
  rintro e w' ⟨⟨b', col', rfl, _, hd, hx, hm⟩, k⟩
  exact ⟨b', col', rfl, hd, hx, Chg.of_below k, hm⟩
/-- a part of a slice of bytes -/
theorem rd_part {w : World} {own : Nat → Prop} {g off N cap : Nat} {pl : List Int} (h : RdAt w own 1 (.slice (some ⟨g, off, none⟩) N cap) N (bcells pl)) (hN : 0 < N) (p m : Nat) (hm : p + m ≤ N) :
    RdAt w own 1 (.slice (some ⟨g, off + p, none⟩) m (cap - p)) ((pl.drop p).take m).length (bcells ((pl.drop p).take m)) := by
  obtain ⟨hl, a, cap', e, h1, h2, h3⟩ := h
  injection e with e1 _ e3
  subst e1 e3
  simp only [bcells_len, Nat.mul_one] at hl
  have hlen : ((pl.drop p).take m).length = m := by simp; omega
  obtain ⟨g', off', e, hg, hgl, hc⟩ := h3 hN
  injection e with e
  injection e with e1 e2
  subst e1 e2
  refine ⟨by simp, _, _, by rw [hlen], by rw [hlen]; omega, by omega, fun _ => ⟨g, off + p, rfl, hg, hgl, fun j u hj => ?_⟩⟩
  have : (bcells pl)[p + j]? = some u := by
    simp only [bcells, List.map_take, List.map_drop, List.getElem?_take, List.getElem?_drop] at hj
    split at hj
    · exact hj
    · cases hj
  rw [Nat.add_assoc]
  exact hc _ _ this
end Go.Proofs.Ytlkebppmdbgdmaa
