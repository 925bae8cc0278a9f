/-
  A node's shape, the document's.
-/
import Derived.Test.YthmimbmlcihkaaaGreatNRise
namespace Go.Proofs.YthmimbmlcihkaaaGreat
open Go.RowKit
set_option linter.unusedSimpArgs false
set_option linter.unusedVariables false
set_option maxRecDepth 100000

def kidOk (x : Int) : Bool := decide (0 ≤ x) && decide (x ≤ 4294967295)
/-- as many of each as there must be -/
def ND.form (n : ND) : Bool :=
  if n.leaf then decide (n.values.length = n.keys.length) && decide (n.kids.length = 0) else decide (n.kids.length = n.keys.length + 1) && decide (n.values.length = 0)
noncomputable def ND.shape (n : ND) : Bool := n.form && n.kids.all kidOk && ups n.keys
end Go.Proofs.YthmimbmlcihkaaaGreat
