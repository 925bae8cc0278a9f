/-
  A table and the document's table that stand together: every call of both.
-/
import Derived.Test.YtbkblfhhhhkeaaaTab2
namespace Go.Proofs.Ytbkblfhhhhkeaaa
open Go.RowKit
set_option linter.unusedSimpArgs false
set_option linter.unusedVariables false

/-- the cells of a table in whatever world between two calls: what may be read: blocks that are not on the list -/
abbrev Off (bad : List Nat) (k : Nat) : Prop := k ∉ bad
structure Pair (w : World) (bad : List Nat) (b r : Nat) (l : List (Int × Int)) : Prop where
  tab : TabAt w b l
  ok : TabOk l
  ref : RefT w r (Off bad) (opens l)
  hb : b ∈ bad
  hr : r ∈ bad
  ne : b ≠ r
  low : ∀ k ∈ bad, k < w.heap.size
def ODid (bad : List Nat) (b r : Nat) (l : List (Int × Int)) (w w' : World) : Prop := Pair w' bad b r l ∧ Chg (fun k => k = b ∨ k = r) w w'

section
variable {w w' : World} {bad : List Nat} {b r : Nat} {l : List (Int × Int)}
theorem Pair.fresh (h : Pair w bad b r l) : ∀ k, w.heap.size ≤ k → Off bad k := fun k hk hm => by have := h.low k hm; omega
theorem Pair.below (h : Pair w bad b r l) (k : Below w.heap.size w w') : Pair w' bad b r l :=
  ⟨h.tab.below k h.tab.lt, h.ok, h.ref.below k, h.hb, h.hr, h.ne, fun i hi => Nat.lt_of_lt_of_le (h.low i hi) k.size⟩
/-- the table was turned -/
theorem Pair.tabbed (h : Pair w bad b r l) (k : Chg (· = b) w w') {l' : List (Int × Int)} (ht : TabAt w' b l') : TabAt w' b l' ∧ RefT w' r (Off bad) (opens l) ∧ (∀ k ∈ bad, k < w'.heap.size) :=
  ⟨ht, h.ref.keep k (fun e => h.ne e.symm) (fun i _ hp e => hp (e ▸ h.hb)), fun i hi => Nat.lt_of_lt_of_le (h.low i hi) k.size⟩
/-- another pair's doings leave it -/
theorem Pair.other {b2 r2 : Nat} (h : Pair w bad b r l) (k : Chg (fun k => k = b2 ∨ k = r2) w w') (hb2 : b2 ∈ bad) (hr2 : r2 ∈ bad) (n1 : b ≠ b2) (n2 : b ≠ r2) (n3 : r ≠ b2) (n4 : r ≠ r2) : Pair w' bad b r l :=
  ⟨⟨h.tab.len, k.keeps h.tab.block (by rintro (e | e); exact n1 e; exact n2 e)⟩, h.ok, h.ref.keep k (by rintro (e | e); exact n3 e; exact n4 e) (fun i _ hp => by rintro (e | e); exact hp (e ▸ hb2); exact hp (e ▸ hr2)), h.hb, h.hr, h.ne, fun i hi => Nat.lt_of_lt_of_le (h.low i hi) k.size⟩
end

def ocode (l : List (Int × Int)) (i : Int) : Int × Int := if freeIx l < 0 then (0, 238) else if i < 1 then (0, 236) else (freeIx l, 0)
def opS (l : List (Int × Int)) (i f : Int) : List (Int × Int) := if freeIx l < 0 then l else if i < 1 then l else l.set (freeIx l).toNat (i, f)
theorem hopen_any (w : World) (b : Nat) (l : List (Int × Int)) (i f : Int) (h : TabAt w b l) :
    Calls Try.prog 9 #[.pointer (some ⟨b, 0, none⟩), .int .i64 i, .int .i64 f] w fun e w' => e = .returned (.tuple #[.int .i64 (ocode l i).1, .int .i64 (ocode l i).2]) ∧ TabAt w' b (opS l i f) ∧ Chg (· = b) w w' := by
  unfold ocode opS
  by_cases h1 : freeIx l < 0
  · simp only [if_pos h1]
    exact (open_full w b l i f h h1).mono fun e w' ⟨he, k⟩ => ⟨he, h.below k h.lt, Chg.of_below k⟩
  · simp only [if_neg h1]
    by_cases h2 : i < 1
    · simp only [if_pos h2]
      exact (open_inval w b l i f h (by omega) h2).mono fun e w' ⟨he, k⟩ => ⟨he, h.below k h.lt, Chg.of_below k⟩
    · simp only [if_neg h2]
      have hl := freeIx_lt (l := l)
      have hlen := h.len
      exact open_ok w b l i f h (by omega) (by omega) h2
theorem ropen_any {w : World} {bad : List Nat} {b r : Nat} {l : List (Int × Int)} (hlen : l.length = 64) (ok : TabOk l) (h : RefT w r (Off bad) (opens l)) (hr : r ∈ bad) (hlow : ∀ k ∈ bad, k < w.heap.size) (i f : Int) :
    Calls Try.prog 22 #[.pointer (some ⟨r, 0, none⟩), .int .i64 i, .int .i64 f] w fun e w' => e = .returned (.tuple #[.int .i64 (ocode l i).1, .int .i64 (ocode l i).2]) ∧ RDid w r (Off bad) (opens (opS l i f)) w' := by
  obtain ⟨a, cap, h⟩ := h
  have hfr : ∀ k, w.heap.size ≤ k → Off bad k := fun k hk hm => by have := hlow k hm; omega
  have he := opens_opn hlen
  unfold ocode opS
  rcases freeIx_lt (l := l) with hf | ⟨f0, f1, f2, f3⟩
  · rw [hf]
    simp only [show (-1 : Int) < 0 by omega, if_true]
    have hfull : ∀ j, j < l.length → (nth l j).1 ≠ 0 := fun j hj e => by
      unfold freeIx at hf
      cases hq : l.findIdx? (fun p => p.1 == 0) with
      | some n => rw [hq] at hf; simp at hf
      | none =>
        rw [List.findIdx?_eq_none_iff] at hq
        have := nth_get hj
        rw [List.getElem?_eq_getElem hj] at this
        injection this with this
        have := hq _ (List.getElem_mem hj)
        simp_all
    have hg : IsGap (opens l) 64 := by rw [he]; exact gap_full ok hlen hfull
    refine (ropen_no w r _ _ a cap i f h 64 hg (Or.inl rfl)).mono ?_
    rintro e w' ⟨rfl, rfl⟩
    exact ⟨rfl, ⟨_, _, h⟩, Chg.refl _ _⟩
  · obtain ⟨n, hn⟩ := Int.eq_ofNat_of_zero_le f0
    rw [hn] at f1 f2 f3
    simp only [Int.toNat_natCast] at f2 f3
    rw [hn]
    simp only [show ¬ (n : Int) < 0 by omega, if_false, Int.toNat_natCast]
    obtain ⟨g1, g2⟩ := gap_free ok (by omega) f2 f3
    rw [← he] at g1
    by_cases h2 : i < 1
    · simp only [if_pos h2]
      refine (ropen_no w r _ _ a cap i f h n g1 (Or.inr ⟨by omega, h2⟩)).mono ?_
      rintro e w' ⟨rfl, rfl⟩
      exact ⟨by rw [if_neg (by omega)], ⟨_, _, h⟩, Chg.refl _ _⟩
    · simp only [if_neg h2]
      have hlt : (opens l).length < 64 := by
        have e := opn_split (l := l) (n := n) (by omega)
        rw [if_neg (by omega)] at e
        rw [he, e]
        have := opn_len (l.take n) 0
        have := opn_len (l.drop (n + 1)) (n + 1)
        simp only [List.length_append, List.length_take, List.length_drop, List.nil_append] at *
        omega
      have e2 := g2 (i, f) (by simp only; omega)
      rw [← he, ← opens_opn (by simp [hlen])] at e2
      rw [← e2]
      exact ropen_ok w r _ _ a cap i f h (fun e => e hr) hfr n g1 (by omega) (by omega) hlt
theorem opS_ok {l : List (Int × Int)} (ok : TabOk l) {i : Int} (hi : i ≤ 9223372036854775807) (f : Int) : TabOk (opS l i f) := by
  unfold opS
  split
  · exact ok
  · split
    · exact ok
    · exact ok.set _ _ ⟨by simp only; omega, hi⟩

noncomputable def clS (l : List (Int × Int)) (n : Int) : List (Int × Int) := if isOpen l n then l.set n.toNat (0, 0) else l
def ccode (l : List (Int × Int)) (n : Int) : Int × (Bool × Int) := if isOpen l n then ((nth l n.toNat).1, (countOf (l.set n.toNat (0, 0)) (nth l n.toNat).1 == 0, 0)) else (0, (false, 237))
theorem isOpen_iff {l : List (Int × Int)} {n : Int} : isOpen l n = true ↔ 0 ≤ n ∧ n < 64 ∧ 0 < (nth l n.toNat).1 := by simp [isOpen]
theorem hclose_any (w : World) (b : Nat) (l : List (Int × Int)) (n : Int) (h : TabAt w b l) :
    Calls Try.prog 11 #[.pointer (some ⟨b, 0, none⟩), .int .i64 n] w fun e w' => e = .returned (.tuple #[.int .i64 (ccode l n).1, .bool (ccode l n).2.1, .int .i64 (ccode l n).2.2]) ∧ TabAt w' b (clS l n) ∧ Chg (· = b) w w' := by
  unfold ccode clS
  cases hn : isOpen l n with
  | true => exact close_yes w b l n h hn
  | false =>
    refine (close_no w b l n h hn).mono ?_
    rintro e w' ⟨rfl, rfl⟩
    exact ⟨rfl, h, Chg.refl _ _⟩
theorem rclose_any {w : World} {bad : List Nat} {r : Nat} {l : List (Int × Int)} (hlen : l.length = 64) (h : RefT w r (Off bad) (opens l)) (hr : r ∈ bad) (hlow : ∀ k ∈ bad, k < w.heap.size) (n : Int) :
    Calls Try.prog 23 #[.pointer (some ⟨r, 0, none⟩), .int .i64 n] w fun e w' => e = .returned (.tuple #[.int .i64 (ccode l n).1, .bool (ccode l n).2.1, .int .i64 (ccode l n).2.2]) ∧ RDid w r (Off bad) (opens (clS l n)) w' := by
  obtain ⟨a, cap, h⟩ := h
  have hfr : ∀ k, w.heap.size ≤ k → Off bad k := fun k hk hm => by have := hlow k hm; omega
  have he := opens_opn hlen
  unfold ccode clS
  cases hn : isOpen l n with
  | true =>
    obtain ⟨n0, n1, n2⟩ := isOpen_iff.1 hn
    obtain ⟨m, rfl⟩ := Int.eq_ofNat_of_zero_le n0
    simp only [Int.toNat_natCast] at n2
    obtain ⟨k1, k2⟩ := find_open (l := l) (n := m) (by omega) n2
    have k3 := cut_open (l := l) (n := m) (by omega) n2
    rw [← he] at k1 k2 k3
    rw [← opens_opn (l := l.set m (0, 0)) (by simp [hlen])] at k3
    have := rclose_ok w r _ _ a cap m h (fun e => e hr) hfr _ _ k1 k2
    rw [k3] at this
    simp only [if_true, Int.toNat_natCast]
    exact this
  | false =>
    have hx : findIx (opens l) n = -1 := by
      rw [he]
      refine find_shut (fun e => ?_)
      rw [isOpen_iff.2 ⟨e.1, by omega, e.2.2⟩] at hn
      cases hn
    refine (rclose_no w r _ _ a cap n h hx).mono ?_
    rintro e w' ⟨rfl, k⟩
    exact ⟨rfl, ⟨_, _, h.below k⟩, Chg.of_below k⟩
theorem clS_ok {l : List (Int × Int)} (ok : TabOk l) (n : Int) : TabOk (clS l n) := by
  unfold clS
  split
  · exact ok.set _ _ ⟨by simp, by simp⟩
  · exact ok
def gcode (l : List (Int × Int)) (n : Int) : (Int × (Int × Int)) × Int := if isOpen l n then ((n, nth l n.toNat), 0) else ((0, (0, 0)), 237)
theorem hget_any (w : World) (b : Nat) (l : List (Int × Int)) (n : Int) (h : TabAt w b l) :
    Calls Try.prog 15 #[.pointer (some ⟨b, 0, none⟩), .int .i64 n] w fun e w' => e = .returned (.tuple #[.agg #[.int .i64 (gcode l n).1.1, .int .i64 (gcode l n).1.2.1, .int .i64 (gcode l n).1.2.2], .int .i64 (gcode l n).2]) ∧ Below w.heap.size w w' := by
  unfold gcode
  cases hn : isOpen l n with
  | true => exact get_yes w b l n h hn
  | false => exact get_no w b l n h hn
theorem rget_any {w : World} {bad : List Nat} {r : Nat} {l : List (Int × Int)} (hlen : l.length = 64) (h : RefT w r (Off bad) (opens l)) (n : Int) :
    Calls Try.prog 24 #[.pointer (some ⟨r, 0, none⟩), .int .i64 n] w fun e w' => e = .returned (.tuple #[.agg #[.int .i64 (gcode l n).1.1, .int .i64 (gcode l n).1.2.1, .int .i64 (gcode l n).1.2.2], .int .i64 (gcode l n).2]) ∧ Below w.heap.size w w' := by
  obtain ⟨a, cap, h⟩ := h
  have he := opens_opn hlen
  unfold gcode
  cases hn : isOpen l n with
  | true =>
    obtain ⟨n0, n1, n2⟩ := isOpen_iff.1 hn
    obtain ⟨m, rfl⟩ := Int.eq_ofNat_of_zero_le n0
    simp only [Int.toNat_natCast] at n2
    obtain ⟨k1, k2⟩ := find_open (l := l) (n := m) (by omega) n2
    rw [← he] at k1 k2
    exact rget_yes w r _ _ a cap m h _ _ k1 k2
  | false =>
    have hx : findIx (opens l) n = -1 := by
      rw [he]
      refine find_shut (fun e => ?_)
      rw [isOpen_iff.2 ⟨e.1, by omega, e.2.2⟩] at hn
      cases hn
    exact rget_no w r _ _ a cap n h hx
end Go.Proofs.Ytbkblfhhhhkeaaa
