/-
  A call as an argument, opened.
-/
import Derived.Test.YtjjgihaikcnjgaaCNobody
namespace Go.Proofs.Ytjjgihaikcnjgaa
open Go.RowKit Go.ChangeShapes Go.WideShapes Go.ChangeAt Go.Deep
set_option linter.unusedSimpArgs false
set_option linter.unusedVariables false
set_option maxRecDepth 100000
section
variable {H : Type} {enc : TypeId × Value → H} {W : World}
theorem open_op1 {base : Nat} {v : Value} {d : DataW H} {p : List MemPlace} (hv : Value.okWide Try.prog W .any base 31 v) (h : DataW.Trod enc Try.prog W 0 (fun _ => true) true 31 v d p) :
    ∃ o : OpC, OpAtC W v o := by
  obtain ⟨fuel, h⟩ := h
  obtain ⟨cs, rfl, hsz⟩ := okWide_struct Try.underlying31 hv
  rw [cells31] at hsz
  obtain ⟨xs, n, _, hx, hl, hlen, hf⟩ := DataW.trod_struct Try.underlying31 h
  have hc : (Value.agg cs).cells.toList = cs.toList := rfl
  rw [hc] at hf hl
  match hcs : cs.toList, (show cs.toList.length = 5 by simpa using hsz) with
  | [c0, c1, c2, c3, c4], _ =>
    rw [hcs] at hf
    match xs, hlen with
    | [y0, y1, y2, y3, y4], _ =>
      have t0 : DataW.trod enc Try.prog W 0 (fun _ => true) true n 3 [c0] = some y0 := by simpa [cells3] using hf 0 _ rfl
      have t1 : DataW.trod enc Try.prog W 0 (fun _ => true) true n 3 [c1] = some y1 := by simpa [cells3] using hf 1 _ rfl
      have t2 : DataW.trod enc Try.prog W 0 (fun _ => true) true n 5 [c2] = some y2 := by simpa [cells3, cells5] using hf 2 _ rfl
      have t3 : DataW.trod enc Try.prog W 0 (fun _ => true) true n 3 [c3] = some y3 := by simpa [cells3, cells5] using hf 3 _ rfl
      have t4 : DataW.trod enc Try.prog W 0 (fun _ => true) true n 29 [c4] = some y4 := by simpa [cells3, cells5, cells29] using hf 4 _ rfl
      obtain ⟨N0, h0, e0, w0⟩ := DataW.trod_int Try.underlying3 t0
      obtain ⟨N1, h1, e1, w1⟩ := DataW.trod_int Try.underlying3 t1
      obtain ⟨N2, h2, e2, w2⟩ := DataW.trod_int Try.underlying5 t2
      obtain ⟨N3, h3, e3, w3⟩ := DataW.trod_int Try.underlying3 t3
      obtain ⟨N4, h4, e4, w4⟩ := DataW.trod_int Try.underlying29 t4
      simp only [List.cons.injEq, and_true] at h0 h1 h2 h3 h4
      subst h0 h1 h2 h3 h4
      simp [Lit.wf, IntKind.min, IntKind.max, IntKind.bits, IntKind.signed] at w1 w2 w3 w4
      refine ⟨⟨N0, N1, N2, N3, N4⟩, ?_, ⟨by simp only; omega, by simp only; omega, by simp only; omega, by simp only; omega⟩⟩
      congr 1
      apply Array.ext'
      rw [hcs]
end
end Go.Proofs.Ytjjgihaikcnjgaa
