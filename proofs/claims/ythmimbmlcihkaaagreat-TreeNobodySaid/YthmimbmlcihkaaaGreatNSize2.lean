/-
  The document's Size.
-/
import Derived.Test.YthmimbmlcihkaaaGreatNSize
namespace Go.Proofs.YthmimbmlcihkaaaGreat
open Go.RowKit
set_option linter.unusedSimpArgs false
set_option linter.unusedVariables false
set_option maxRecDepth 100000

/-- the first k entries' bytes -/
def ND.sumTo (n : ND) : Nat → Int
  | 0 => 0
  | k + 1 => n.sumTo k + n.rentry k
def ND.rsize (n : ND) : Int := (if n.leaf then 16 else 20) + n.sumTo n.keys.length
theorem ND.rentry_pos (n : ND) (i : Nat) : 0 ≤ n.rentry i := by
  unfold ND.rentry
  have := sz_pos n.keys i
  have := sz_pos n.values i
  split <;> omega
theorem sz_le {l : List ByteArray} {b : Nat} (h : ∀ k ∈ l, k.size ≤ b) (i : Nat) : sz l i ≤ b := by
  by_cases hi : i < l.length
  · have := h _ (List.getElem_mem hi)
    rw [sz_get hi]; omega
  · rw [sz_off (by omega)]; omega
theorem ND.rentry_le {n : ND} (h : n.lens = true) (i : Nat) : n.rentry i ≤ 130 := by
  simp only [ND.lens, Bool.and_eq_true, List.all_eq_true] at h
  have h1 := sz_le (l := n.keys) (b := 64) (fun k hk => by have := h.1 k hk; simp [keyOk] at this; omega) i
  have h2 := sz_le (l := n.values) (b := 64) (fun k hk => by have := h.2 k hk; simp [valOk] at this; omega) i
  unfold ND.rentry
  split <;> omega
theorem ND.sumTo_pos (n : ND) (k : Nat) : 0 ≤ n.sumTo k := by
  induction k with
  | zero => exact Int.le_refl _
  | succ k ih => have := n.rentry_pos k; show 0 ≤ n.sumTo k + n.rentry k; omega
theorem ND.sumTo_le {n : ND} (h : n.lens = true) (k : Nat) : n.sumTo k ≤ 130 * k := by
  induction k with
  | zero => exact Int.le_refl _
  | succ k ih => have := ND.rentry_le h k; show n.sumTo k + n.rentry k ≤ _; omega
theorem ND.Lens.of {n : ND} (h : n.lens = true) : n.Lens := by
  simp only [ND.lens, Bool.and_eq_true, List.all_eq_true] at h
  exact ⟨fun k hk => by have := h.1 k hk; simp [keyOk] at this; omega, fun k hk => by have := h.2 k hk; simp [valOk] at this; omega⟩

theorem NodeAt.bl {w w' : World} {own : Nat → Prop} {v : Value} {n : ND} (h : NodeAt w own v n) (b : Bl w w') : NodeAt w' own v n := by
  obtain ⟨ka, kc, va, vc, ia, ic, rfl, h⟩ := h
  exact ⟨ka, kc, va, vc, ia, ic, rfl, h.below b⟩
end Go.Proofs.YthmimbmlcihkaaaGreat
