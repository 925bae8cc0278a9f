/-
  The document's Check.
-/
import Derived.Test.YthmimbmlcihkaaaGreatNShape
namespace Go.Proofs.YthmimbmlcihkaaaGreat
open Go.RowKit
set_option linter.unusedSimpArgs false
set_option linter.unusedVariables false
set_option maxRecDepth 100000

/-- 0: a node may be; 90: no node; 91: no entry -/
noncomputable def ND.check (n : ND) : Int :=
  if n.lens = true then (if n.shape = true ∧ (n.leaf = true ∨ n.keys.length ≠ 0) then 0 else 90) else 91
theorem ND.Lens.big {n : ND} (h : n.Lens) : (∀ k ∈ n.keys, k.size ≤ 9223372036854775807) ∧ (∀ k ∈ n.values, k.size ≤ 9223372036854775807) :=
  ⟨fun k hk => by have := h.keys k hk; omega, fun k hk => by have := h.values k hk; omega⟩
end Go.Proofs.YthmimbmlcihkaaaGreat
