/-
  Check: the program's.
-/
import Derived.Test.YthmimbmlcihkaaaGreatNSame
namespace Go.Proofs.YthmimbmlcihkaaaGreat
open Go.RowKit
set_option linter.unusedSimpArgs false
set_option linter.unusedVariables false
set_option maxRecDepth 100000
theorem check_any (w : World) (own : Nat → Prop) (v : Value) (n : ND) (hv : NodeAt w own v n) (hs : n.Small) (ln : n.Lens) :
    Calls Tryz.prog 49 #[v] w fun e w' => e = .returned (.int .i64 n.check) ∧ Bl w w' := by
  have hv' := hv
  obtain ⟨ka, kc, va, vc, ia, ic, rfl, h⟩ := hv
  have kB : Bl w (w.alloc (.cells (nbox n ka kc va vc ia ic) 61)) := (Bl.refl w).alloc _
  have hN := hv'.bl kB
  unfold nodeV
  unfold nodeV at hv' hN
  unfold nbox at kB hN
  go_enter Tryz.func49, Tryz.ntmps49
  go_wp2_with (go_at_call 79; refine (pcheck_any _ own _ n false hN hs ln).mono ?_; rw [pcheck_check]; rintro e w3 ⟨rfl, k3⟩)
  go_ret
  exact ⟨rfl, kB.trans k3⟩
end Go.Proofs.YthmimbmlcihkaaaGreat
