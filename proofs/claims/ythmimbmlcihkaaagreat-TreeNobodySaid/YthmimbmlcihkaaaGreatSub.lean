/-
  Parts of slices: v[:k], v[k:]: what they read as; what a walk lays ahead of them.
-/
import Derived.Test.YthmimbmlcihkaaaGreatSl
namespace Go.Proofs.YthmimbmlcihkaaaGreat
open Go.RowKit
set_option linter.unusedSimpArgs false
set_option linter.unusedVariables false

theorem elem_of {P : Program} {t e : TypeId} (ht : P.underlying t = some (.slice e)) : P.elem t = e := by simp [Program.elem, ht]
theorem size_run {P : Program} {e : TypeId} {i : TypeInfo} (hi : P.info? e = some i) (W : World) : (sizeOf e).run P W = .ok i.size W := by simp [sizeOf, typeInfo, hi]
theorem slice_to {P : Program} {t e : TypeId} {i : TypeInfo} {size : Nat} (ht : P.underlying t = some (.slice e)) (hi : P.info? e = some i) (hsize : i.size = size)
    {w : World} {own : Nat → Prop} {v : Value} {n : Nat} {xs : List Value} (h : RdAt w own size v n xs) {k : Nat} (hk : k ≤ n) :
    ∃ a c, (∀ W, (Instr.slice t v none (some (.int .i64 (k : Int))) none).run P W = .ok (.slice a k c) W) ∧ RdAt w own size (.slice a k c) k (xs.take (k * size)) := by
  obtain ⟨h1, a, cap, rfl, h2, h3, h4⟩ := h
  have e : (if cap = 0 then a else a.map (·.add (0 * i.size))) = a := by
    split
    · rfl
    · cases a with
      | none => rfl
      | some x => obtain ⟨g, o, sp⟩ := x; simp [Addr.add]
  refine ⟨a, cap, fun W => ?_, ?_, a, cap, rfl, by omega, h3, fun hn => ?_⟩
  · rw [run_slice_h (P := P) W t a n cap (by rw [elem_of ht]; exact ht) .i64 (k : Int) (by omega) (by omega)]
    rw [elem_of ht, size_run hi]
    simp only [Result.andThen, sliced, Int.toNat_natCast]
    rw [e]; rfl
  · rw [List.length_take, h1, Nat.min_eq_left (Nat.mul_le_mul_right _ hk)]
  · obtain ⟨g, off, rfl, h5, h6, h7⟩ := h4 (by omega)
    exact ⟨g, off, rfl, h5, h6, fun j u hj => h7 j u (by rw [List.getElem?_take] at hj; split at hj; exact hj; simp at hj)⟩
theorem slice_from {P : Program} {t e : TypeId} {i : TypeInfo} {size : Nat} (ht : P.underlying t = some (.slice e)) (hi : P.info? e = some i) (hsize : i.size = size)
    {w : World} {own : Nat → Prop} {v : Value} {n : Nat} {xs : List Value} (h : RdAt w own size v n xs) {k : Nat} (hk : k ≤ n) :
    ∃ a c, (∀ W, (Instr.slice t v (some (.int .i64 (k : Int))) none none).run P W = .ok (.slice a (n - k) c) W) ∧ RdAt w own size (.slice a (n - k) c) (n - k) (xs.drop (k * size)) := by
  obtain ⟨h1, a, cap, rfl, h2, h3, h4⟩ := h
  subst hsize
  refine ⟨if cap = k then a else a.map (·.add (k * i.size)), cap - k, fun W => ?_, ?_, _, _, rfl, by omega, by omega, fun hn => ?_⟩
  · rw [run_slice_l (P := P) W t a n cap (by rw [elem_of ht]; exact ht) .i64 (k : Int) (by omega) (by omega)]
    rw [elem_of ht, size_run hi]
    simp only [Result.andThen, sliced, Int.toNat_natCast]
  · rw [List.length_drop, h1, Nat.sub_mul]
  · obtain ⟨g, off, rfl, h5, h6, h7⟩ := h4 (by omega)
    refine ⟨g, off + k * i.size, ?_, h5, h6, fun j u hj => ?_⟩
    · rw [if_neg (by omega)]
      simp [add_lit']
    · rw [List.getElem?_drop] at hj
      have := h7 _ _ hj
      rw [show off + k * i.size + j = off + (k * i.size + j) by omega]
      exact this
end Go.Proofs.YthmimbmlcihkaaaGreat
