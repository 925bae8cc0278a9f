/-
  The document's nodes: Copy.
-/
import Derived.Test.YthmimbmlcihkaaaGreatNRep
namespace Go.Proofs.YthmimbmlcihkaaaGreat
open Go.RowKit
set_option linter.unusedSimpArgs false
set_option linter.unusedVariables false
set_option maxRecDepth 100000

theorem bl_size {a b : World} (h : Bl a b) : a.heap.size ≤ b.heap.size := h.size
theorem chg4 {a b : World} (k : Bl a b) (B : Nat) (u0 u1 u2 u3 : Value) : Chg (fun i => i = B) a ((((b.setCell ⟨B, 0, none⟩ u0).setCell ⟨B, 1, none⟩ u1).setCell ⟨B, 2, none⟩ u2).setCell ⟨B, 3, none⟩ u3) :=
  ((((Chg.of_below (own := fun i => i = B) k).setCell ⟨B, 0, none⟩ u0 (fun _ => rfl)).setCell ⟨B, 1, none⟩ u1 (fun _ => rfl)).setCell ⟨B, 2, none⟩ u2 (fun _ => rfl)).setCell ⟨B, 3, none⟩ u3 (fun _ => rfl)
theorem rd_fin {W a b c : World} {B M : Nat} {size n : Nat} {v : Value} {xs : List Value} (r : RdAt a (fun j => W.heap.size ≤ j) size v n xs) (k : Bl a b) (hc : Chg (fun i => i = B) b c) (hB : B < W.heap.size) (hM : M ≤ W.heap.size) : RdAt c (fun j => M ≤ j) size v n xs :=
  RdAt.keep (RdAt.below r k) (fun i hi e => hc.block i hi (by omega)) (fun i _ e => by omega) hc.size
theorem info9 : (Tryz.prog.info? 9).map (fun i => (i.zero, i.size, i.bytes)) = some (some (.string ⟨#[]⟩), 1, 16) := by kernel_rfl
theorem info3 : (Tryz.prog.info? 3).map (fun i => (i.zero, i.size, i.bytes)) = some (some (.int .i64 0), 1, 8) := by kernel_rfl
/-- a node handed back: its parts lie in new memory -/
def TellsNode (w : World) (n : ND) (e : Ending) (w' : World) : Prop := ∃ v, e = .returned v ∧ NodeAt w' (fun k => w.heap.size ≤ k) v n
/-- bounds that keep appends within the machine -/
structure ND.Small (n : ND) : Prop where
  keys : n.keys.length ≤ 8796093022208
  values : n.values.length ≤ 8796093022208
  kids : n.kids.length ≤ 17592186044416

end Go.Proofs.YthmimbmlcihkaaaGreat
