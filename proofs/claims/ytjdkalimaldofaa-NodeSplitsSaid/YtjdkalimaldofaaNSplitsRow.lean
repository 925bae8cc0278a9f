/-
  NodeSplits: the walk, as the row asks for it.
-/
import Derived.Test.YtjdkalimaldofaaNLaw1
import Derived.Test.YtjdkalimaldofaaNOpen
namespace Go.Proofs.Ytjdkalimaldofaa
open Go.RowKit
theorem splits_gen (W : World) (v : Value) (n : ND) (h : NodeAt W (fun k => k < W.heap.size) v n ∧ n.Small ∧ n.Lens ∧ ∀ k ∈ n.kids, -9223372036854775808 ≤ k ∧ k ≤ 9223372036854775807) :
    Calls Try.prog 3 #[v] W fun e w' => e = .returned (.bool true) ∧ Below W.heap.size W w' := splits_any W _ v n h.1 h.2.1 h.2.2.1
end Go.Proofs.Ytjdkalimaldofaa
