/-
  No cell of these rows narrows 'for every input' (looked for: loops, veiled, ifaces, maps, wideKeys, modest, calm, conditions, laid).
  DERIVED. THE GIVEN ROWS OF THIS SEAT. 4 by the template 'for every input the law returns true; each argument reads behind the call as it read before'; 0 by the template 'total and deterministic' (their statements: YtbkblfhhhhkeaaaTotals.lean).
  GIVEN WITH THE SEED: the statements are not yours to turn. If you find one false, say at which input.
  Laid BY PROGRAM, IN A SANDBOX (cutbox-rows.mjs): the forced cells as the released guide's own fill.sh prints them over the translation 0f5fd60b1729e5e0… (all of the seat's roots in one cut). By AI agents, Wed Nov 11 2026. No macro, syntax, notation, axiom, sorry.
-/
import Derived.Test.YtbkblfhhhhkeaaaChecked
import GoSem.Claim
import GoSem.ClaimJoined
import GoSem.ClaimMapViews
import Derived.JoinedTies
import Derived.KernelRfl
namespace Go.Proofs.Ytbkblfhhhhkeaaa
/- THE CELL 'sum', in the pinned program and in every row, IS THE sha256 OF THE DUMP (.gsa) THAT YtbkblfhhhhkeaaaProg.lean LOADS. Nothing in Lean hashes anything: it is a label: what it is worth is what the hold of that sum in a sandbox is worth. -/
noncomputable def Try.pinned : Pinned := { name := "ytbkblfhhhhkeaaa", sum := "0f5fd60b1729e5e0f59b3fce5c61aa491fe620fd645306148fe3de7721fc725f", checked := Try.checked }
namespace Rows
def none {H : Type} : Left H := { results := [], args := [] }

/-- 'deduplaw24.HandleFull': WHATEVER THE INPUT: true; the input reads as it did. -/
def handleFullSpec : ChangeSpec := { name := "handleFull", fn := fun _ => fun
  | [d1, d2] => { results := [.lit (.bool true)], args := [d1, d2] }
  | _ => none }
def handleFullRow : OpenClaim := { program := "ytbkblfhhhhkeaaa", sum := "0f5fd60b1729e5e0f59b3fce5c61aa491fe620fd645306148fe3de7721fc725f", func := "dedup/deduplaw24.HandleFull", spec := "handleFull", unfollowed := true, recurses := true, apart := false }
def HandleFullSaid : Prop := handleFullRow.holds Try.pinned (OpenSpec.ofChange handleFullSpec)

/-- ITS FALSE NEIGHBOUR: 'it returns false'. Refute it at one input. -/
def handleFullWrong : ChangeSpec := { name := "handleFull", fn := fun _ => fun
  | [d1, d2] => { results := [.lit (.bool false)], args := [d1, d2] }
  | _ => none }
def HandleFullWrongFalsely : Prop := handleFullRow.holds Try.pinned (OpenSpec.ofChange handleFullWrong)

/-- 'deduplaw24.HandleDoes': WHATEVER THE INPUT: true; the input reads as it did. -/
def handleDoesSpec : ChangeSpec := { name := "handleDoes", fn := fun _ => fun
  | [d] => { results := [.lit (.bool true)], args := [d] }
  | _ => none }
def handleDoesRow : OpenClaim := { program := "ytbkblfhhhhkeaaa", sum := "0f5fd60b1729e5e0f59b3fce5c61aa491fe620fd645306148fe3de7721fc725f", func := "dedup/deduplaw24.HandleDoes", spec := "handleDoes", unfollowed := true, recurses := true, apart := false }
def HandleDoesSaid : Prop := handleDoesRow.holds Try.pinned (OpenSpec.ofChange handleDoesSpec)

/-- ITS FALSE NEIGHBOUR: 'it returns false'. Refute it at one input. -/
def handleDoesWrong : ChangeSpec := { name := "handleDoes", fn := fun _ => fun
  | [d] => { results := [.lit (.bool false)], args := [d] }
  | _ => none }
def HandleDoesWrongFalsely : Prop := handleDoesRow.holds Try.pinned (OpenSpec.ofChange handleDoesWrong)

/-- 'deduplaw24.HandleForks': WHATEVER THE INPUT: true; the input reads as it did. -/
def handleForksSpec : ChangeSpec := { name := "handleForks", fn := fun _ => fun
  | [d1, d2] => { results := [.lit (.bool true)], args := [d1, d2] }
  | _ => none }
def handleForksRow : OpenClaim := { program := "ytbkblfhhhhkeaaa", sum := "0f5fd60b1729e5e0f59b3fce5c61aa491fe620fd645306148fe3de7721fc725f", func := "dedup/deduplaw24.HandleForks", spec := "handleForks", unfollowed := true, recurses := true, apart := false }
def HandleForksSaid : Prop := handleForksRow.holds Try.pinned (OpenSpec.ofChange handleForksSpec)

/-- ITS FALSE NEIGHBOUR: 'it returns false'. Refute it at one input. -/
def handleForksWrong : ChangeSpec := { name := "handleForks", fn := fun _ => fun
  | [d1, d2] => { results := [.lit (.bool false)], args := [d1, d2] }
  | _ => none }
def HandleForksWrongFalsely : Prop := handleForksRow.holds Try.pinned (OpenSpec.ofChange handleForksWrong)

/-- 'deduplaw24.HandleNobody': WHATEVER THE INPUT: true; the input reads as it did. -/
def handleNobodySpec : ChangeSpec := { name := "handleNobody", fn := fun _ => fun
  | [d] => { results := [.lit (.bool true)], args := [d] }
  | _ => none }
def handleNobodyRow : OpenClaim := { program := "ytbkblfhhhhkeaaa", sum := "0f5fd60b1729e5e0f59b3fce5c61aa491fe620fd645306148fe3de7721fc725f", func := "dedup/deduplaw24.HandleNobody", spec := "handleNobody", unfollowed := true, recurses := true, apart := false }
def HandleNobodySaid : Prop := handleNobodyRow.holds Try.pinned (OpenSpec.ofChange handleNobodySpec)

/-- ITS FALSE NEIGHBOUR: 'it returns false'. Refute it at one input. -/
def handleNobodyWrong : ChangeSpec := { name := "handleNobody", fn := fun _ => fun
  | [d] => { results := [.lit (.bool false)], args := [d] }
  | _ => none }
def HandleNobodyWrongFalsely : Prop := handleNobodyRow.holds Try.pinned (OpenSpec.ofChange handleNobodyWrong)

/- THE SECOND FORM. 'bulk': how many values and letters a reading holds, each counted each time it is reached (what is shared counts as often as it is met; a slice's spare places count too). A statement '..UptoSaid' is the law's where the arguments, and the package variables that the reading takes, are together of bulk at most 1048576: NARROWER than '..Said'. Prove '..Said' where nothing that the law and all that it calls make is longer than what came in: it says more and counts as full. Else prove '..UptoSaid'. A law counts once. -/
mutual
def uptoBulk {H : Type} : DataW H → Nat
  | .lit (.string bytes) => bytes.length + 1
  | .lit _ => 1
  | .nil => 1
  | .ptr d => uptoBulk d + 1
  | .slice elems spare => uptoBulkAll elems + uptoBulkAll spare + 1
  | .agg parts => uptoBulkAll parts + 1
  | .iface _ d => uptoBulk d + 1
  | .map entries => uptoBulkEntries entries + 1
  | .held _ => 1
def uptoBulkAll {H : Type} : List (DataW H) → Nat
  | [] => 0
  | d :: r => uptoBulk d + uptoBulkAll r
def uptoBulkEntries {H : Type} : List (Lit × DataW H) → Nat
  | [] => 0
  | x :: r => uptoBulkEntry x + uptoBulkEntries r
def uptoBulkEntry {H : Type} : Lit × DataW H → Nat
  | (.string bytes, d) => bytes.length + uptoBulk d + 1
  | (_, d) => uptoBulk d + 1
 end
def uptoSmall : (H : Type) → List (DataW H) → Bool := fun _ ds => decide (uptoBulkAll ds ≤ 1048576)
def OpenSpec.upto (s : _root_.Go.ChangeSpec) : _root_.Go.OpenSpec := { _root_.Go.OpenSpec.ofChange s with cond := some uptoSmall }

/-- 'deduplaw24.HandleFull', WHERE WHAT IT READS IS OF BULK AT MOST 1048576: true; the input reads as it did. -/
def handleFullUptoRow : OpenClaim := { program := "ytbkblfhhhhkeaaa", sum := "0f5fd60b1729e5e0f59b3fce5c61aa491fe620fd645306148fe3de7721fc725f", func := "dedup/deduplaw24.HandleFull", spec := "handleFull", unfollowed := true, recurses := true, apart := false, narrowed := true }
def HandleFullUptoSaid : Prop := handleFullUptoRow.holds Try.pinned (OpenSpec.upto handleFullSpec)

/-- 'deduplaw24.HandleDoes', WHERE WHAT IT READS IS OF BULK AT MOST 1048576: true; the input reads as it did. -/
def handleDoesUptoRow : OpenClaim := { program := "ytbkblfhhhhkeaaa", sum := "0f5fd60b1729e5e0f59b3fce5c61aa491fe620fd645306148fe3de7721fc725f", func := "dedup/deduplaw24.HandleDoes", spec := "handleDoes", unfollowed := true, recurses := true, apart := false, narrowed := true }
def HandleDoesUptoSaid : Prop := handleDoesUptoRow.holds Try.pinned (OpenSpec.upto handleDoesSpec)

/-- 'deduplaw24.HandleForks', WHERE WHAT IT READS IS OF BULK AT MOST 1048576: true; the input reads as it did. -/
def handleForksUptoRow : OpenClaim := { program := "ytbkblfhhhhkeaaa", sum := "0f5fd60b1729e5e0f59b3fce5c61aa491fe620fd645306148fe3de7721fc725f", func := "dedup/deduplaw24.HandleForks", spec := "handleForks", unfollowed := true, recurses := true, apart := false, narrowed := true }
def HandleForksUptoSaid : Prop := handleForksUptoRow.holds Try.pinned (OpenSpec.upto handleForksSpec)

/-- 'deduplaw24.HandleNobody', WHERE WHAT IT READS IS OF BULK AT MOST 1048576: true; the input reads as it did. -/
def handleNobodyUptoRow : OpenClaim := { program := "ytbkblfhhhhkeaaa", sum := "0f5fd60b1729e5e0f59b3fce5c61aa491fe620fd645306148fe3de7721fc725f", func := "dedup/deduplaw24.HandleNobody", spec := "handleNobody", unfollowed := true, recurses := true, apart := false, narrowed := true }
def HandleNobodyUptoSaid : Prop := handleNobodyUptoRow.holds Try.pinned (OpenSpec.upto handleNobodySpec)

end Rows
end Go.Proofs.Ytbkblfhhhhkeaaa
