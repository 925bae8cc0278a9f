/-
  No cell of these rows narrows 'for every input' (looked for: loops, veiled, ifaces, maps, wideKeys, modest, calm, conditions, laid).
  DERIVED. THE GIVEN ROWS OF THIS SEAT. 5 by the template 'for every input the law returns true; each argument reads behind the call as it read before'; 0 by the template 'total and deterministic' (their statements: YthmimbmlcihkaaaGreatTotals.lean).
  GIVEN WITH THE SEED: the statements are not yours to turn. If you find one false, say at which input.
  Laid BY PROGRAM, IN A SANDBOX (cutbox-rows.mjs): the forced cells as the released guide's own fill.sh prints them over the translation 44865a17ed36f00b… (all of the seat's roots in one cut). By AI agents, Wed Nov 11 2026. No macro, syntax, notation, axiom, sorry.
-/
import Derived.Test.YthmimbmlcihkaaaGreatChecked
import GoSem.Claim
import GoSem.ClaimJoined
import GoSem.ClaimMapViews
import Derived.JoinedTies
import Derived.KernelRfl
namespace Go.Proofs.YthmimbmlcihkaaaGreat
/- THE CELL 'sum', in the pinned program and in every row, IS THE sha256 OF THE DUMP (.gsa) THAT YthmimbmlcihkaaaGreatProg.lean LOADS. Nothing in Lean hashes anything: it is a label: what it is worth is what the hold of that sum in a sandbox is worth. -/
noncomputable def Tryz.pinned : Pinned := { name := "ythmimbmlcihkaaagreat", sum := "44865a17ed36f00b9503c9bdac578cd896615f08070c7bc00d8362fcc8ea064e", checked := Tryz.checked }
namespace Rows
def none {H : Type} : Left H := { results := [], args := [] }

/-- 'deduplaw11.TreeFew': WHATEVER THE INPUT: true; the input reads as it did. -/
def treeFewSpec : ChangeSpec := { name := "treeFew", fn := fun _ => fun
  | [d1, d2, d3] => { results := [.lit (.bool true)], args := [d1, d2, d3] }
  | _ => none }
def treeFewRow : OpenClaim := { program := "ythmimbmlcihkaaagreat", sum := "44865a17ed36f00b9503c9bdac578cd896615f08070c7bc00d8362fcc8ea064e", func := "dedup/deduplaw11.TreeFew", spec := "treeFew", inPlace := ["slices.overlaps[string]", "slices.overlaps[*dedup/tree.knot]"], unfollowed := true, recurses := true, apart := false }
def TreeFewSaid : Prop := treeFewRow.holds Tryz.pinned (OpenSpec.ofChange treeFewSpec)

/-- ITS FALSE NEIGHBOUR: 'it returns false'. Refute it at one input. -/
def treeFewWrong : ChangeSpec := { name := "treeFew", fn := fun _ => fun
  | [d1, d2, d3] => { results := [.lit (.bool false)], args := [d1, d2, d3] }
  | _ => none }
def TreeFewWrongFalsely : Prop := treeFewRow.holds Tryz.pinned (OpenSpec.ofChange treeFewWrong)

/-- 'deduplaw11.TreeOrders': WHATEVER THE INPUT: true; the input reads as it did. -/
def treeOrdersSpec : ChangeSpec := { name := "treeOrders", fn := fun _ => fun
  | [d1, d2, d3] => { results := [.lit (.bool true)], args := [d1, d2, d3] }
  | _ => none }
def treeOrdersRow : OpenClaim := { program := "ythmimbmlcihkaaagreat", sum := "44865a17ed36f00b9503c9bdac578cd896615f08070c7bc00d8362fcc8ea064e", func := "dedup/deduplaw11.TreeOrders", spec := "treeOrders", inPlace := ["slices.overlaps[string]", "slices.overlaps[*dedup/tree.knot]"], unfollowed := true, recurses := true, apart := false }
def TreeOrdersSaid : Prop := treeOrdersRow.holds Tryz.pinned (OpenSpec.ofChange treeOrdersSpec)

/-- ITS FALSE NEIGHBOUR: 'it returns false'. Refute it at one input. -/
def treeOrdersWrong : ChangeSpec := { name := "treeOrders", fn := fun _ => fun
  | [d1, d2, d3] => { results := [.lit (.bool false)], args := [d1, d2, d3] }
  | _ => none }
def TreeOrdersWrongFalsely : Prop := treeOrdersRow.holds Tryz.pinned (OpenSpec.ofChange treeOrdersWrong)

/-- 'deduplaw11.TreeMaps': WHATEVER THE INPUT: true; the input reads as it did. -/
def treeMapsSpec : ChangeSpec := { name := "treeMaps", fn := fun _ => fun
  | [d1, d2] => { results := [.lit (.bool true)], args := [d1, d2] }
  | _ => none }
def treeMapsRow : OpenClaim := { program := "ythmimbmlcihkaaagreat", sum := "44865a17ed36f00b9503c9bdac578cd896615f08070c7bc00d8362fcc8ea064e", func := "dedup/deduplaw11.TreeMaps", spec := "treeMaps", inPlace := ["slices.overlaps[string]", "slices.overlaps[*dedup/tree.knot]"], unfollowed := true, recurses := true, apart := false }
def TreeMapsSaid : Prop := treeMapsRow.holds Tryz.pinned (OpenSpec.ofChange treeMapsSpec)

/-- ITS FALSE NEIGHBOUR: 'it returns false'. Refute it at one input. -/
def treeMapsWrong : ChangeSpec := { name := "treeMaps", fn := fun _ => fun
  | [d1, d2] => { results := [.lit (.bool false)], args := [d1, d2] }
  | _ => none }
def TreeMapsWrongFalsely : Prop := treeMapsRow.holds Tryz.pinned (OpenSpec.ofChange treeMapsWrong)

/-- 'deduplaw11.TreeSnapshots': WHATEVER THE INPUT: true; the input reads as it did. -/
def treeSnapshotsSpec : ChangeSpec := { name := "treeSnapshots", fn := fun _ => fun
  | [d1, d2, d3] => { results := [.lit (.bool true)], args := [d1, d2, d3] }
  | _ => none }
def treeSnapshotsRow : OpenClaim := { program := "ythmimbmlcihkaaagreat", sum := "44865a17ed36f00b9503c9bdac578cd896615f08070c7bc00d8362fcc8ea064e", func := "dedup/deduplaw11.TreeSnapshots", spec := "treeSnapshots", inPlace := ["slices.overlaps[string]", "slices.overlaps[*dedup/tree.knot]"], unfollowed := true, recurses := true, apart := false }
def TreeSnapshotsSaid : Prop := treeSnapshotsRow.holds Tryz.pinned (OpenSpec.ofChange treeSnapshotsSpec)

/-- ITS FALSE NEIGHBOUR: 'it returns false'. Refute it at one input. -/
def treeSnapshotsWrong : ChangeSpec := { name := "treeSnapshots", fn := fun _ => fun
  | [d1, d2, d3] => { results := [.lit (.bool false)], args := [d1, d2, d3] }
  | _ => none }
def TreeSnapshotsWrongFalsely : Prop := treeSnapshotsRow.holds Tryz.pinned (OpenSpec.ofChange treeSnapshotsWrong)

/-- 'deduplaw11.TreeNobody': WHATEVER THE INPUT: true; the input reads as it did. -/
def treeNobodySpec : ChangeSpec := { name := "treeNobody", fn := fun _ => fun
  | [d1, d2] => { results := [.lit (.bool true)], args := [d1, d2] }
  | _ => none }
def treeNobodyRow : OpenClaim := { program := "ythmimbmlcihkaaagreat", sum := "44865a17ed36f00b9503c9bdac578cd896615f08070c7bc00d8362fcc8ea064e", func := "dedup/deduplaw11.TreeNobody", spec := "treeNobody", inPlace := ["slices.overlaps[string]", "slices.overlaps[*dedup/tree.knot]"], unfollowed := true, recurses := true, apart := false }
def TreeNobodySaid : Prop := treeNobodyRow.holds Tryz.pinned (OpenSpec.ofChange treeNobodySpec)

/-- ITS FALSE NEIGHBOUR: 'it returns false'. Refute it at one input. -/
def treeNobodyWrong : ChangeSpec := { name := "treeNobody", fn := fun _ => fun
  | [d1, d2] => { results := [.lit (.bool false)], args := [d1, d2] }
  | _ => none }
def TreeNobodyWrongFalsely : Prop := treeNobodyRow.holds Tryz.pinned (OpenSpec.ofChange treeNobodyWrong)

/- THE SECOND FORM. 'bulk': how many values and letters a reading holds, each counted each time it is reached (what is shared counts as often as it is met; a slice's spare places count too). A statement '..UptoSaid' is the law's where the arguments, and the package variables that the reading takes, are together of bulk at most 1048576: NARROWER than '..Said'. Prove '..Said' where nothing that the law and all that it calls make is longer than what came in: it says more and counts as full. Else prove '..UptoSaid'. A law counts once. -/
mutual
def uptoBulk {H : Type} : DataW H → Nat
  | .lit (.string bytes) => bytes.length + 1
  | .lit _ => 1
  | .nil => 1
  | .ptr d => uptoBulk d + 1
  | .slice elems spare => uptoBulkAll elems + uptoBulkAll spare + 1
  | .agg parts => uptoBulkAll parts + 1
  | .iface _ d => uptoBulk d + 1
  | .map entries => uptoBulkEntries entries + 1
  | .held _ => 1
def uptoBulkAll {H : Type} : List (DataW H) → Nat
  | [] => 0
  | d :: r => uptoBulk d + uptoBulkAll r
def uptoBulkEntries {H : Type} : List (Lit × DataW H) → Nat
  | [] => 0
  | x :: r => uptoBulkEntry x + uptoBulkEntries r
def uptoBulkEntry {H : Type} : Lit × DataW H → Nat
  | (.string bytes, d) => bytes.length + uptoBulk d + 1
  | (_, d) => uptoBulk d + 1
 end
def uptoSmall : (H : Type) → List (DataW H) → Bool := fun _ ds => decide (uptoBulkAll ds ≤ 1048576)
def OpenSpec.upto (s : _root_.Go.ChangeSpec) : _root_.Go.OpenSpec := { _root_.Go.OpenSpec.ofChange s with cond := some uptoSmall }

/-- 'deduplaw11.TreeFew', WHERE WHAT IT READS IS OF BULK AT MOST 1048576: true; the input reads as it did. -/
def treeFewUptoRow : OpenClaim := { program := "ythmimbmlcihkaaagreat", sum := "44865a17ed36f00b9503c9bdac578cd896615f08070c7bc00d8362fcc8ea064e", func := "dedup/deduplaw11.TreeFew", spec := "treeFew", inPlace := ["slices.overlaps[string]", "slices.overlaps[*dedup/tree.knot]"], unfollowed := true, recurses := true, apart := false, narrowed := true }
def TreeFewUptoSaid : Prop := treeFewUptoRow.holds Tryz.pinned (OpenSpec.upto treeFewSpec)

/-- 'deduplaw11.TreeOrders', WHERE WHAT IT READS IS OF BULK AT MOST 1048576: true; the input reads as it did. -/
def treeOrdersUptoRow : OpenClaim := { program := "ythmimbmlcihkaaagreat", sum := "44865a17ed36f00b9503c9bdac578cd896615f08070c7bc00d8362fcc8ea064e", func := "dedup/deduplaw11.TreeOrders", spec := "treeOrders", inPlace := ["slices.overlaps[string]", "slices.overlaps[*dedup/tree.knot]"], unfollowed := true, recurses := true, apart := false, narrowed := true }
def TreeOrdersUptoSaid : Prop := treeOrdersUptoRow.holds Tryz.pinned (OpenSpec.upto treeOrdersSpec)

/-- 'deduplaw11.TreeMaps', WHERE WHAT IT READS IS OF BULK AT MOST 1048576: true; the input reads as it did. -/
def treeMapsUptoRow : OpenClaim := { program := "ythmimbmlcihkaaagreat", sum := "44865a17ed36f00b9503c9bdac578cd896615f08070c7bc00d8362fcc8ea064e", func := "dedup/deduplaw11.TreeMaps", spec := "treeMaps", inPlace := ["slices.overlaps[string]", "slices.overlaps[*dedup/tree.knot]"], unfollowed := true, recurses := true, apart := false, narrowed := true }
def TreeMapsUptoSaid : Prop := treeMapsUptoRow.holds Tryz.pinned (OpenSpec.upto treeMapsSpec)

/-- 'deduplaw11.TreeSnapshots', WHERE WHAT IT READS IS OF BULK AT MOST 1048576: true; the input reads as it did. -/
def treeSnapshotsUptoRow : OpenClaim := { program := "ythmimbmlcihkaaagreat", sum := "44865a17ed36f00b9503c9bdac578cd896615f08070c7bc00d8362fcc8ea064e", func := "dedup/deduplaw11.TreeSnapshots", spec := "treeSnapshots", inPlace := ["slices.overlaps[string]", "slices.overlaps[*dedup/tree.knot]"], unfollowed := true, recurses := true, apart := false, narrowed := true }
def TreeSnapshotsUptoSaid : Prop := treeSnapshotsUptoRow.holds Tryz.pinned (OpenSpec.upto treeSnapshotsSpec)

/-- 'deduplaw11.TreeNobody', WHERE WHAT IT READS IS OF BULK AT MOST 1048576: true; the input reads as it did. -/
def treeNobodyUptoRow : OpenClaim := { program := "ythmimbmlcihkaaagreat", sum := "44865a17ed36f00b9503c9bdac578cd896615f08070c7bc00d8362fcc8ea064e", func := "dedup/deduplaw11.TreeNobody", spec := "treeNobody", inPlace := ["slices.overlaps[string]", "slices.overlaps[*dedup/tree.knot]"], unfollowed := true, recurses := true, apart := false, narrowed := true }
def TreeNobodyUptoSaid : Prop := treeNobodyUptoRow.holds Tryz.pinned (OpenSpec.upto treeNobodySpec)

end Rows
end Go.Proofs.YthmimbmlcihkaaaGreat
