/-
  HandleNobody: its operation, opened.
-/
import Derived.Test.YtbkblfhhhhkeaaaNobodyLaw
import Derived.Test.YtbkblfhhhhkeaaaOpsH
namespace Go.Proofs.Ytbkblfhhhhkeaaa
open Go.RowKit Go.ChangeShapes Go.WideShapes Go.ChangeAt Go.Deep
set_option linter.unusedSimpArgs false
set_option linter.unusedVariables false

theorem open_opH {H : Type} {enc : TypeId × Value → H} {W : World} {base : Nat} {v : Value} {d : DataW H} {p : List MemPlace} (hv : Value.okWide Try.prog W .any base 38 v) (h : DataW.Trod enc Try.prog W 0 (fun _ => true) true 38 v d p) : ∃ o : OpH, v = opv o := by
  obtain ⟨fuel, h⟩ := h
  obtain ⟨cs, rfl, hsz⟩ := okWide_struct Try.underlying38 hv
  rw [cells38] at hsz
  obtain ⟨xs, n, _, hx, hl, hlen, hf⟩ := DataW.trod_struct Try.underlying38 h
  have hc : (Value.agg cs).cells.toList = cs.toList := rfl
  rw [hc] at hf hl
  match hcs : cs.toList, (show cs.toList.length = 3 by simpa using hsz) with
  | [c0, c1, c2], _ =>
    rw [hcs] at hf
    match xs, hlen with
    | [y0, y1, y2], _ =>
      have t0 : DataW.trod enc Try.prog W 0 (fun _ => true) true n 3 [c0] = some y0 := by simpa [cells3] using hf 0 _ rfl
      have t1 : DataW.trod enc Try.prog W 0 (fun _ => true) true n 3 [c1] = some y1 := by simpa [cells3] using hf 1 _ rfl
      have t2 : DataW.trod enc Try.prog W 0 (fun _ => true) true n 3 [c2] = some y2 := by simpa [cells3] using hf 2 _ rfl
      obtain ⟨N0, h0, _, w0⟩ := DataW.trod_int Try.underlying3 t0
      obtain ⟨N1, h1, _, w1⟩ := DataW.trod_int Try.underlying3 t1
      obtain ⟨N2, h2, _, w2⟩ := DataW.trod_int Try.underlying3 t2
      simp only [List.cons.injEq, and_true] at h0 h1 h2
      subst h0 h1 h2
      refine ⟨⟨N0, N1, N2⟩, ?_⟩
      unfold opv
      congr 1
      apply Array.ext'
      rw [hcs]
theorem nobody_gen (W : World) (v : Value) (o : OpH) (h : v = opv o) : Calls Try.prog 6 #[v] W fun e w' => e = .returned (.bool true) ∧ Below W.heap.size W w' := by
  subst h
  exact nobody_any W o
end Go.Proofs.Ytbkblfhhhhkeaaa
