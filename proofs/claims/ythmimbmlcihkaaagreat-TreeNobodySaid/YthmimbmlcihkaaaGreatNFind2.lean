/-
  Find of a leaf.
-/
import Derived.Test.YthmimbmlcihkaaaGreatNFind
import Derived.BigQuiet
namespace Go.Proofs.YthmimbmlcihkaaaGreat
open Go.RowKit
set_option linter.unusedSimpArgs false
set_option linter.unusedVariables false
set_option maxRecDepth 100000
theorem Bl.drewN {a b : World} (h : Bl a b) (q : Nat) : Bl a (b.drewN q) := ⟨h.os, h.tape, h.output, h.size, h.block⟩
def eqB (a b : ByteArray) : Bool := a.toList == b.toList
def ND.finds (n : ND) (key : ByteArray) (r : Nat) : Bool := decide (r < n.keys.length) && eqB (atL n.keys r) key
set_option maxRecDepth 100000 in
set_option maxHeartbeats 1000000 in
theorem findleaf_any (w : World) (own : Nat → Prop) (v : Value) (n : ND) (key : ByteArray) (hv : NodeAt w own v n) (sm : n.Small) (hu : ups n.keys = true) (hf : n.leaf = true) :
    Calls Tryz.prog 28 #[v, .string key] w fun e w' => (∃ r : Nat, e = .returned (.tuple #[.int .i64 r, .bool (n.finds key r)]) ∧ First (fun k => !(lessB (atL n.keys k) key)) n.keys.length r) ∧ Bl w w' := by
  obtain ⟨ka, kc, va, vc, ia, ic, rfl, h⟩ := hv
  obtain ⟨_, _, _, hmax⟩ := RdAt.shape h.keys
  unfold maxLen at hmax
  have hs1 := sm.keys
  unfold nodeV
  rw [hf]
  clear hf
  have kB : Bl w ((w.alloc (.cells #[.bool true, .slice ka n.keys.length kc, .slice va n.values.length vc, .slice ia n.kids.length ic] 61)).alloc (.cells #[.string key] 9)) := ((Bl.refl w).alloc _).alloc _
  have b1 : ((w.alloc (.cells #[.bool true, .slice ka n.keys.length kc, .slice va n.values.length vc, .slice ia n.kids.length ic] 61)).alloc (.cells #[.string key] 9)).heap[w.heap.size]? = some (.cells #[.bool true, .slice ka n.keys.length kc, .slice va n.values.length vc, .slice ia n.kids.length ic] 61 (0, 0)) := block_old _ (block_new _ _)
  have b2 : ((w.alloc (.cells #[.bool true, .slice ka n.keys.length kc, .slice va n.values.length vc, .slice ia n.kids.length ic] 61)).alloc (.cells #[.string key] 9)).heap[w.heap.size + 1]? = some (.cells #[.string key] 9 (0, 0)) := block_new' _ (by simp)
  have hA := h.below kB
  have HU := Lib.hid hu
  clear hu
  go_enter Tryz.func28, Tryz.ntmps28
  go_wp2_with fail
  generalize (w.alloc (.cells #[.bool true, .slice ka n.keys.length kc, .slice va n.values.length vc, .slice ia n.kids.length ic] 61)).alloc (.cells #[.string key] 9) = W2 at *
  refine (searchstrings_any W2 _ _ n.keys key hA.keys hs1 HU.out).mono ?_
  rintro e w3 ⟨⟨r, rfl, hr⟩, k3⟩
  have b13 := below_keeps k3 b1 (lt_of_block b1)
  have b23 := below_keeps k3 b2 (lt_of_block b2)
  obtain ⟨x0, x1, x2, x3, -, -, -, -⟩ := cells4 b13
  have y0 : w3.cell? ⟨w.heap.size + 1, 0, none⟩ = some (.string key) := (cell_of_block b23 0).trans rfl
  have hrl := hr.le
  have HR := Lib.hid hr
  have r0 : (0 : Int) ≤ (r : Int) := by omega
  clear hr
  by_cases hlt : r < n.keys.length
  · obtain ⟨g, off, rfl, _, hg, hc⟩ := RdAt.get (RdAt.below hA.keys k3) (by omega)
    have c1 := hc r _ (tcells_get hlt)
    clear hc
    have r1 : (r : Int) < (n.keys.length : Int) := by omega
    have HE : Hid (n.finds key r = (n.keys[r].toList == key.toList)) := by show _ = _; simp [ND.finds, hlt, atL_get hlt, eqB]
    go_wp2_with fail
    go_quiet (fail)
    all_goals go_wp2_with fail
    go_ret2
    exact ⟨⟨r, by rw [HE.out]; rfl, HR.out⟩, kB.trans (k3.drewN _)⟩
  · have r1 : ¬ (r : Int) < (n.keys.length : Int) := by omega
    have HE : Hid (n.finds key r = false) := by show _ = _; simp [ND.finds, hlt]
    go_wp2_with fail
    go_quiet (fail)
    all_goals go_wp2_with fail
    go_ret2
    exact ⟨⟨r, by rw [HE.out]; rfl, HR.out⟩, kB.trans (k3.drewN _)⟩
end Go.Proofs.YthmimbmlcihkaaaGreat
