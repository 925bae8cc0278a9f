/-
  No cell of these rows narrows 'for every input' (looked for: loops, veiled, ifaces, maps, wideKeys, modest, calm, conditions, laid).
  DERIVED. THE GIVEN ROWS OF THIS SEAT. 6 by the template 'for every input the law returns true; each argument reads behind the call as it read before'; 0 by the template 'total and deterministic' (their statements: YtjjgihaikcnjgaaTotals.lean).
  GIVEN WITH THE SEED: the statements are not yours to turn. If you find one false, say at which input.
  Laid BY PROGRAM, IN A SANDBOX (cutbox-rows.mjs): the forced cells as the released guide's own fill.sh prints them over the translation 9aa3d93b291c5f44… (all of the seat's roots in one cut). By AI agents, Wed Nov 11 2026. No macro, syntax, notation, axiom, sorry.
-/
import Derived.Test.YtjjgihaikcnjgaaChecked
import GoSem.Claim
import GoSem.ClaimJoined
import GoSem.ClaimMapViews
import Derived.JoinedTies
import Derived.KernelRfl
namespace Go.Proofs.Ytjjgihaikcnjgaa
/- THE CELL 'sum', in the pinned program and in every row, IS THE sha256 OF THE DUMP (.gsa) THAT YtjjgihaikcnjgaaProg.lean LOADS. Nothing in Lean hashes anything: it is a label: what it is worth is what the hold of that sum in a sandbox is worth. -/
noncomputable def Try.pinned : Pinned := { name := "ytjjgihaikcnjgaa", sum := "9aa3d93b291c5f44d3a566173f5c8906ec6c730a76e56262cb650cb89089f488", checked := Try.checked }
namespace Rows
def none {H : Type} : Left H := { results := [], args := [] }

/-- 'deduplaw08.CacheHolds': WHATEVER THE INPUT: true; the input reads as it did. -/
def cacheHoldsSpec : ChangeSpec := { name := "cacheHolds", fn := fun _ => fun
  | [d] => { results := [.lit (.bool true)], args := [d] }
  | _ => none }
def cacheHoldsRow : OpenClaim := { program := "ytjjgihaikcnjgaa", sum := "9aa3d93b291c5f44d3a566173f5c8906ec6c730a76e56262cb650cb89089f488", func := "dedup/deduplaw08.CacheHolds", spec := "cacheHolds", unfollowed := true, recurses := true, apart := false }
def CacheHoldsSaid : Prop := cacheHoldsRow.holds Try.pinned (OpenSpec.ofChange cacheHoldsSpec)

/-- ITS FALSE NEIGHBOUR: 'it returns false'. Refute it at one input. -/
def cacheHoldsWrong : ChangeSpec := { name := "cacheHolds", fn := fun _ => fun
  | [d] => { results := [.lit (.bool false)], args := [d] }
  | _ => none }
def CacheHoldsWrongFalsely : Prop := cacheHoldsRow.holds Try.pinned (OpenSpec.ofChange cacheHoldsWrong)

/-- 'deduplaw08.CacheOrdered': WHATEVER THE INPUT: true; the input reads as it did. -/
def cacheOrderedSpec : ChangeSpec := { name := "cacheOrdered", fn := fun _ => fun
  | [d] => { results := [.lit (.bool true)], args := [d] }
  | _ => none }
def cacheOrderedRow : OpenClaim := { program := "ytjjgihaikcnjgaa", sum := "9aa3d93b291c5f44d3a566173f5c8906ec6c730a76e56262cb650cb89089f488", func := "dedup/deduplaw08.CacheOrdered", spec := "cacheOrdered", unfollowed := true, recurses := true, apart := false }
def CacheOrderedSaid : Prop := cacheOrderedRow.holds Try.pinned (OpenSpec.ofChange cacheOrderedSpec)

/-- ITS FALSE NEIGHBOUR: 'it returns false'. Refute it at one input. -/
def cacheOrderedWrong : ChangeSpec := { name := "cacheOrdered", fn := fun _ => fun
  | [d] => { results := [.lit (.bool false)], args := [d] }
  | _ => none }
def CacheOrderedWrongFalsely : Prop := cacheOrderedRow.holds Try.pinned (OpenSpec.ofChange cacheOrderedWrong)

/-- 'deduplaw08.CacheSame': WHATEVER THE INPUT: true; the input reads as it did. -/
def cacheSameSpec : ChangeSpec := { name := "cacheSame", fn := fun _ => fun
  | [d] => { results := [.lit (.bool true)], args := [d] }
  | _ => none }
def cacheSameRow : OpenClaim := { program := "ytjjgihaikcnjgaa", sum := "9aa3d93b291c5f44d3a566173f5c8906ec6c730a76e56262cb650cb89089f488", func := "dedup/deduplaw08.CacheSame", spec := "cacheSame", unfollowed := true, recurses := true, apart := false }
def CacheSameSaid : Prop := cacheSameRow.holds Try.pinned (OpenSpec.ofChange cacheSameSpec)

/-- ITS FALSE NEIGHBOUR: 'it returns false'. Refute it at one input. -/
def cacheSameWrong : ChangeSpec := { name := "cacheSame", fn := fun _ => fun
  | [d] => { results := [.lit (.bool false)], args := [d] }
  | _ => none }
def CacheSameWrongFalsely : Prop := cacheSameRow.holds Try.pinned (OpenSpec.ofChange cacheSameWrong)

/-- 'deduplaw08.CacheNobody': WHATEVER THE INPUT: true; the input reads as it did. -/
def cacheNobodySpec : ChangeSpec := { name := "cacheNobody", fn := fun _ => fun
  | [d1, d2] => { results := [.lit (.bool true)], args := [d1, d2] }
  | _ => none }
def cacheNobodyRow : OpenClaim := { program := "ytjjgihaikcnjgaa", sum := "9aa3d93b291c5f44d3a566173f5c8906ec6c730a76e56262cb650cb89089f488", func := "dedup/deduplaw08.CacheNobody", spec := "cacheNobody", unfollowed := true, recurses := true, apart := false }
def CacheNobodySaid : Prop := cacheNobodyRow.holds Try.pinned (OpenSpec.ofChange cacheNobodySpec)

/-- ITS FALSE NEIGHBOUR: 'it returns false'. Refute it at one input. -/
def cacheNobodyWrong : ChangeSpec := { name := "cacheNobody", fn := fun _ => fun
  | [d1, d2] => { results := [.lit (.bool false)], args := [d1, d2] }
  | _ => none }
def CacheNobodyWrongFalsely : Prop := cacheNobodyRow.holds Try.pinned (OpenSpec.ofChange cacheNobodyWrong)

/-- 'deduplaw08.CacheDoes': WHATEVER THE INPUT: true; the input reads as it did. -/
def cacheDoesSpec : ChangeSpec := { name := "cacheDoes", fn := fun _ => fun
  | [d] => { results := [.lit (.bool true)], args := [d] }
  | _ => none }
def cacheDoesRow : OpenClaim := { program := "ytjjgihaikcnjgaa", sum := "9aa3d93b291c5f44d3a566173f5c8906ec6c730a76e56262cb650cb89089f488", func := "dedup/deduplaw08.CacheDoes", spec := "cacheDoes", unfollowed := true, recurses := true, apart := false }
def CacheDoesSaid : Prop := cacheDoesRow.holds Try.pinned (OpenSpec.ofChange cacheDoesSpec)

/-- ITS FALSE NEIGHBOUR: 'it returns false'. Refute it at one input. -/
def cacheDoesWrong : ChangeSpec := { name := "cacheDoes", fn := fun _ => fun
  | [d] => { results := [.lit (.bool false)], args := [d] }
  | _ => none }
def CacheDoesWrongFalsely : Prop := cacheDoesRow.holds Try.pinned (OpenSpec.ofChange cacheDoesWrong)

/-- 'deduplaw08.CacheLooks': WHATEVER THE INPUT: true; the input reads as it did. -/
def cacheLooksSpec : ChangeSpec := { name := "cacheLooks", fn := fun _ => fun
  | [d] => { results := [.lit (.bool true)], args := [d] }
  | _ => none }
def cacheLooksRow : OpenClaim := { program := "ytjjgihaikcnjgaa", sum := "9aa3d93b291c5f44d3a566173f5c8906ec6c730a76e56262cb650cb89089f488", func := "dedup/deduplaw08.CacheLooks", spec := "cacheLooks", unfollowed := true, recurses := true, apart := false }
def CacheLooksSaid : Prop := cacheLooksRow.holds Try.pinned (OpenSpec.ofChange cacheLooksSpec)

/-- ITS FALSE NEIGHBOUR: 'it returns false'. Refute it at one input. -/
def cacheLooksWrong : ChangeSpec := { name := "cacheLooks", fn := fun _ => fun
  | [d] => { results := [.lit (.bool false)], args := [d] }
  | _ => none }
def CacheLooksWrongFalsely : Prop := cacheLooksRow.holds Try.pinned (OpenSpec.ofChange cacheLooksWrong)

/- THE SECOND FORM. 'bulk': how many values and letters a reading holds, each counted each time it is reached (what is shared counts as often as it is met; a slice's spare places count too). A statement '..UptoSaid' is the law's where the arguments, and the package variables that the reading takes, are together of bulk at most 1048576: NARROWER than '..Said'. Prove '..Said' where nothing that the law and all that it calls make is longer than what came in: it says more and counts as full. Else prove '..UptoSaid'. A law counts once. -/
mutual
def uptoBulk {H : Type} : DataW H → Nat
  | .lit (.string bytes) => bytes.length + 1
  | .lit _ => 1
  | .nil => 1
  | .ptr d => uptoBulk d + 1
  | .slice elems spare => uptoBulkAll elems + uptoBulkAll spare + 1
  | .agg parts => uptoBulkAll parts + 1
  | .iface _ d => uptoBulk d + 1
  | .map entries => uptoBulkEntries entries + 1
  | .held _ => 1
def uptoBulkAll {H : Type} : List (DataW H) → Nat
  | [] => 0
  | d :: r => uptoBulk d + uptoBulkAll r
def uptoBulkEntries {H : Type} : List (Lit × DataW H) → Nat
  | [] => 0
  | x :: r => uptoBulkEntry x + uptoBulkEntries r
def uptoBulkEntry {H : Type} : Lit × DataW H → Nat
  | (.string bytes, d) => bytes.length + uptoBulk d + 1
  | (_, d) => uptoBulk d + 1
 end
def uptoSmall : (H : Type) → List (DataW H) → Bool := fun _ ds => decide (uptoBulkAll ds ≤ 1048576)
def OpenSpec.upto (s : _root_.Go.ChangeSpec) : _root_.Go.OpenSpec := { _root_.Go.OpenSpec.ofChange s with cond := some uptoSmall }

/-- 'deduplaw08.CacheHolds', WHERE WHAT IT READS IS OF BULK AT MOST 1048576: true; the input reads as it did. -/
def cacheHoldsUptoRow : OpenClaim := { program := "ytjjgihaikcnjgaa", sum := "9aa3d93b291c5f44d3a566173f5c8906ec6c730a76e56262cb650cb89089f488", func := "dedup/deduplaw08.CacheHolds", spec := "cacheHolds", unfollowed := true, recurses := true, apart := false, narrowed := true }
def CacheHoldsUptoSaid : Prop := cacheHoldsUptoRow.holds Try.pinned (OpenSpec.upto cacheHoldsSpec)

/-- 'deduplaw08.CacheOrdered', WHERE WHAT IT READS IS OF BULK AT MOST 1048576: true; the input reads as it did. -/
def cacheOrderedUptoRow : OpenClaim := { program := "ytjjgihaikcnjgaa", sum := "9aa3d93b291c5f44d3a566173f5c8906ec6c730a76e56262cb650cb89089f488", func := "dedup/deduplaw08.CacheOrdered", spec := "cacheOrdered", unfollowed := true, recurses := true, apart := false, narrowed := true }
def CacheOrderedUptoSaid : Prop := cacheOrderedUptoRow.holds Try.pinned (OpenSpec.upto cacheOrderedSpec)

/-- 'deduplaw08.CacheSame', WHERE WHAT IT READS IS OF BULK AT MOST 1048576: true; the input reads as it did. -/
def cacheSameUptoRow : OpenClaim := { program := "ytjjgihaikcnjgaa", sum := "9aa3d93b291c5f44d3a566173f5c8906ec6c730a76e56262cb650cb89089f488", func := "dedup/deduplaw08.CacheSame", spec := "cacheSame", unfollowed := true, recurses := true, apart := false, narrowed := true }
def CacheSameUptoSaid : Prop := cacheSameUptoRow.holds Try.pinned (OpenSpec.upto cacheSameSpec)

/-- 'deduplaw08.CacheNobody', WHERE WHAT IT READS IS OF BULK AT MOST 1048576: true; the input reads as it did. -/
def cacheNobodyUptoRow : OpenClaim := { program := "ytjjgihaikcnjgaa", sum := "9aa3d93b291c5f44d3a566173f5c8906ec6c730a76e56262cb650cb89089f488", func := "dedup/deduplaw08.CacheNobody", spec := "cacheNobody", unfollowed := true, recurses := true, apart := false, narrowed := true }
def CacheNobodyUptoSaid : Prop := cacheNobodyUptoRow.holds Try.pinned (OpenSpec.upto cacheNobodySpec)

/-- 'deduplaw08.CacheDoes', WHERE WHAT IT READS IS OF BULK AT MOST 1048576: true; the input reads as it did. -/
def cacheDoesUptoRow : OpenClaim := { program := "ytjjgihaikcnjgaa", sum := "9aa3d93b291c5f44d3a566173f5c8906ec6c730a76e56262cb650cb89089f488", func := "dedup/deduplaw08.CacheDoes", spec := "cacheDoes", unfollowed := true, recurses := true, apart := false, narrowed := true }
def CacheDoesUptoSaid : Prop := cacheDoesUptoRow.holds Try.pinned (OpenSpec.upto cacheDoesSpec)

/-- 'deduplaw08.CacheLooks', WHERE WHAT IT READS IS OF BULK AT MOST 1048576: true; the input reads as it did. -/
def cacheLooksUptoRow : OpenClaim := { program := "ytjjgihaikcnjgaa", sum := "9aa3d93b291c5f44d3a566173f5c8906ec6c730a76e56262cb650cb89089f488", func := "dedup/deduplaw08.CacheLooks", spec := "cacheLooks", unfollowed := true, recurses := true, apart := false, narrowed := true }
def CacheLooksUptoSaid : Prop := cacheLooksUptoRow.holds Try.pinned (OpenSpec.upto cacheLooksSpec)

end Rows
end Go.Proofs.Ytjjgihaikcnjgaa
