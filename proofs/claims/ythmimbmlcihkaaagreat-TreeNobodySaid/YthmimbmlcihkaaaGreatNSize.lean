/-
  Entries and sizes, the program's and the document's.
-/
import Derived.Test.YthmimbmlcihkaaaGreatNRef2
namespace Go.Proofs.YthmimbmlcihkaaaGreat
open Go.RowKit
set_option linter.unusedSimpArgs false
set_option linter.unusedVariables false
set_option maxRecDepth 100000

def sz (l : List ByteArray) (i : Nat) : Int := ((l[i]?.map ByteArray.size).getD 0 : Nat)
theorem sz_get {l : List ByteArray} {i : Nat} (h : i < l.length) : sz l i = l[i].size := by simp [sz, h]
theorem sz_off {l : List ByteArray} {i : Nat} (h : l.length ≤ i) : sz l i = 0 := by simp [sz, h]
theorem sz_pos (l : List ByteArray) (i : Nat) : 0 ≤ sz l i := by unfold sz; omega
/-- the document's entry: how many bytes the i-th has -/
def ND.rentry (n : ND) (i : Nat) : Int := if n.leaf then 2 + sz n.keys i + sz n.values i else 1 + sz n.keys i + 4
/-- no text is longer than the machine has room for -/
structure ND.Lens (n : ND) : Prop where
  keys : ∀ k ∈ n.keys, k.size ≤ 140737488355328
  values : ∀ k ∈ n.values, k.size ≤ 140737488355328
end Go.Proofs.YthmimbmlcihkaaaGreat
