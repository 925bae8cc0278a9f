/-
  The walks of the laws' own small functions: sameBytes, sameInts, filled.
-/
import Derived.Test.YtjjgihaikcnjgaaDWalks2
namespace Go.Proofs.Ytjjgihaikcnjgaa
open Go.RowKit
set_option linter.unusedSimpArgs false
set_option linter.unusedVariables false
set_option maxRecDepth 100000

def IntsAt (w : World) (own : Nat → Prop) (v : Value) (l : List Int) : Prop := RdAt w own 1 v l.length (l.map (Value.int .i64))
theorem icells_get {k : IntKind} {l : List Int} {j : Nat} (h : j < l.length) : (l.map (Value.int k))[j]? = some (.int k l[j]) := by simp [h]

theorem take_eq_succ {l m : List Int} {k : Nat} (hl : k < l.length) (hm : k < m.length) (h : l.take k = m.take k) (he : l[k] = m[k]) : l.take (k + 1) = m.take (k + 1) := by
  rw [List.take_succ_eq_append_getElem hl, List.take_succ_eq_append_getElem hm, h, he]
theorem ne_of_get {l m : List Int} {k : Nat} (hl : k < l.length) (hm : k < m.length) (he : ¬ l[k] = m[k]) : (l == m) = false := by
  simp only [beq_eq_false_iff_ne]
  intro e; subst e; exact he rfl
theorem eq_of_take {l m : List Int} (hlen : l.length = m.length) (h : l.take l.length = m.take l.length) : (l == m) = true := by
  rw [List.take_of_length_le (Nat.le_refl _), List.take_of_length_le (by omega)] at h
  simp [h]

/-- what 'filled' makes: n bytes, the first 40 told by a byte -/
def filledTo (n : Nat) (c : Int) (k : Nat) : List Int := (List.range n).map fun i => if i < k ∧ i < 40 then (c + i) % 256 else 0
def filled (n : Int) (c : Int) : List Int := filledTo n.toNat c n.toNat
theorem filledTo_len (n : Nat) (c : Int) (k : Nat) : (filledTo n c k).length = n := by simp [filledTo]
theorem filledTo_zero (n : Nat) (c : Int) : filledTo n c 0 = zeros n := by
  apply List.ext_getElem
  · simp [filledTo, zeros]
  · intro i h1 h2; simp [filledTo, zeros]
theorem filledTo_succ (n : Nat) (c : Int) (k : Nat) (hk : k < n) (h40 : k < 40) : (filledTo n c k).set k ((c + k) % 256) = filledTo n c (k + 1) := by
  apply List.ext_getElem
  · simp [filledTo]
  · intro i h1 h2
    simp only [filledTo, List.getElem_set, List.getElem_map, List.getElem_range]
    by_cases e : k = i
    · subst e; simp [h40]
    · rw [if_neg e]
      have : (i < k ∧ i < 40) ↔ (i < k + 1 ∧ i < 40) := by omega
      simp only [this]
theorem filledTo_end (n : Nat) (c : Int) (k : Nat) (hk : ¬ (k < n ∧ k < 40)) (hkn : k ≤ n) : filledTo n c k = filledTo n c n := by
  apply List.ext_getElem
  · simp [filledTo]
  · intro i h1 h2
    simp only [filledTo, List.getElem_map, List.getElem_range]
    simp only [filledTo, List.length_map, List.length_range] at h1
    have : (i < k ∧ i < 40) ↔ (i < n ∧ i < 40) := by omega
    simp only [this]
theorem cell_bytes {w : World} {g : Nat} {l : List Int} {e : TypeId} {fr : Nat × Nat} (h : w.heap[g]? = some (.cells (bcells l).toArray e fr)) {k : Nat} (hk : k < l.length) : w.cell? ⟨g, k, none⟩ = some (.int .u8 l[k]) := by
  rw [cell_of_block h, List.getElem?_toArray]; exact bcells_get hk
theorem set_bytes (l : List Int) (k : Nat) (x : Int) : (bcells l).toArray.setIfInBounds k (.int .u8 x) = (bcells (l.set k x)).toArray := by simp [bcells, List.map_set]
def Filled (w : World) (l : List Int) (e : Ending) (w' : World) : Prop := ∃ g, e = .returned (.slice (some ⟨g, 0, none⟩) l.length l.length) ∧ w.heap.size ≤ g ∧ w'.heap[g]? = some (.cells (bcells l).toArray 5 (0, 0))

end Go.Proofs.Ytjjgihaikcnjgaa
