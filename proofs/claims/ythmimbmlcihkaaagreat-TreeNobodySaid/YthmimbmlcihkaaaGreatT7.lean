/-
  The way down in a tree of one leaf.
-/
import Derived.Test.YthmimbmlcihkaaaGreatT6
namespace Go.Proofs.YthmimbmlcihkaaaGreat
open Go.RowKit
set_option linter.unusedSimpArgs false
set_option linter.unusedVariables false
set_option maxRecDepth 100000

section
variable {w : World} {tb kb cb : Nat} {size : Int} {rv : Value} {n : ND} {ps : List Nat} {sector : Int}
/-- a change under way -/
def ChangeIn (w : World) (cb tb : Nat) (way : Value) : Prop := w.heap[cb]? = some (.cells #[ptr tb, way] 71 (0, 0))
theorem ChangeIn.below {w w' : World} {way : Value} (h : ChangeIn w cb tb way) (k : Bl w w') : ChangeIn w' cb tb way := below_keeps k h (lt_of_block h)
def O8 : Obj := .cells #[.bool false, .slice none 0 0, .slice none 0 0, .slice none 0 0] 61
theorem cells_fresh {W w3 : World} (k : Bl (W.alloc O8) w3) : w3.cell? ⟨W.heap.size, 0, none⟩ = some (.bool false) ∧ w3.cell? ⟨W.heap.size, 1, none⟩ = some (.slice none 0 0) ∧ w3.cell? ⟨W.heap.size, 2, none⟩ = some (.slice none 0 0) ∧ w3.cell? ⟨W.heap.size, 3, none⟩ = some (.slice none 0 0) ∧ w3.frozen? ⟨W.heap.size, 0, none⟩ = false ∧ w3.frozen? ⟨W.heap.size, 1, none⟩ = false ∧ w3.frozen? ⟨W.heap.size, 2, none⟩ = false ∧ w3.frozen? ⟨W.heap.size, 3, none⟩ = false := cells4 (below_keeps k (block_new W O8) (lt_of_block (block_new W O8)))
theorem cells_freshD {W w3 : World} (k : Bl (W.drew.alloc O8) w3) : w3.cell? ⟨W.heap.size, 0, none⟩ = some (.bool false) ∧ w3.cell? ⟨W.heap.size, 1, none⟩ = some (.slice none 0 0) ∧ w3.cell? ⟨W.heap.size, 2, none⟩ = some (.slice none 0 0) ∧ w3.cell? ⟨W.heap.size, 3, none⟩ = some (.slice none 0 0) ∧ w3.frozen? ⟨W.heap.size, 0, none⟩ = false ∧ w3.frozen? ⟨W.heap.size, 1, none⟩ = false ∧ w3.frozen? ⟨W.heap.size, 2, none⟩ = false ∧ w3.frozen? ⟨W.heap.size, 3, none⟩ = false := cells_fresh (W := W.drew) k
set_option maxHeartbeats 4000000 in
theorem down_leaf (h : TreeIn w tb size rv kb) (hk : KnotIn w kb n ps sector) (hL : n.IsLeaf) {way : Value} (hc : ChangeIn w cb tb way) (key : ByteArray) : Calls Tryz.prog 27 #[ptr cb, .string key] w fun e w' => (∃ v, e = .returned (.tuple #[v, .bool true]) ∧ NodeAt w' (fun k => k < w.heap.size) v n) ∧ Bl w w' := by
  have HK := Lib.hid hk.on
  have HT := Lib.hid h
  have HL := Lib.hid hL
  have HC := Lib.hid hc
  have htl : tb < w.heap.size := lt_of_block h
  have hcl : cb < w.heap.size := lt_of_block hc
  have KC : Hid (∀ W, Bl w W → W.cell? ⟨cb, 0, none⟩ = some (.pointer (some ⟨tb, 0, none⟩)) ∧ W.cell? ⟨tb, 2, none⟩ = some (.pointer (some ⟨kb, 0, none⟩))) := fun W k => by
    have hB := below_keeps k hc hcl
    have hT := below_keeps k h htl
    refine ⟨?_, ?_⟩
    · rw [cell_of_block hB]; rfl
    · rw [cell_of_block hT]; rfl
  have k1 : Bl w ((w.alloc (.cells #[.bool false, .slice none 0 0, .slice none 0 0, .slice none 0 0] 61)).alloc (.cells #[.string ⟨#[]⟩, .string ⟨#[]⟩] 92)) := ((Bl.refl w).alloc _).alloc _
  have b0 : ((w.alloc (.cells #[.bool false, .slice none 0 0, .slice none 0 0, .slice none 0 0] 61)).alloc (.cells #[.string ⟨#[]⟩, .string ⟨#[]⟩] 92)).heap[w.heap.size]? = some (.cells #[.bool false, .slice none 0 0, .slice none 0 0, .slice none 0 0] 61 (0, 0)) := block_old _ (block_new _ _)
  have b1 : ((w.alloc (.cells #[.bool false, .slice none 0 0, .slice none 0 0, .slice none 0 0] 61)).alloc (.cells #[.string ⟨#[]⟩, .string ⟨#[]⟩] 92)).heap[w.heap.size + 1]? = some (.cells #[.string ⟨#[]⟩, .string ⟨#[]⟩] 92 (0, 0)) := block_new' _ (by simp)
  obtain ⟨c0, c2⟩ := KC.out _ ((Bl.refl w).alloc (.cells #[.bool false, .slice none 0 0, .slice none 0 0, .slice none 0 0] 61))
  unfold ptr at *
  clear h hk hL hc
  go_enter Tryz.func27, Tryz.ntmps27
  go_wp2_with fail
  have HK1 := Lib.hid k1
  clear k1 c0 c2
  generalize (w.alloc (.cells #[.bool false, .slice none 0 0, .slice none 0 0, .slice none 0 0] 61)).alloc (.cells #[.string ⟨#[]⟩, .string ⟨#[]⟩] 92) = W1 at *
  have KS : Hid (∀ W, Bl W1 W → W.cell? ⟨cb, 0, none⟩ = some (.pointer (some ⟨tb, 0, none⟩)) ∧ W.cell? ⟨w.heap.size + 1, 0, none⟩ = some (.string ⟨#[]⟩) ∧ W.cell? ⟨w.heap.size + 1, 1, none⟩ = some (.string ⟨#[]⟩)) := fun W k => by
    have hB := below_keeps k b1 (lt_of_block b1)
    refine ⟨(KC.out _ (Bl.trans HK1.out k)).1, ?_, ?_⟩ <;> (rw [cell_of_block hB]; rfl)
  have hb1l : w.heap.size + 1 < W1.heap.size := lt_of_block b1
  have B0 := Lib.hid b0
  clear b0 b1
  generalize hM : w.heap.size = M at *
  go_loopw [6] (fun v wr => v = .pointer (some ⟨kb, 0, none⟩) ∧ wr = W1) (fun _ _ => 0)
  case atStart => exact ⟨rfl, rfl⟩
  case round =>
    obtain ⟨rfl, rfl⟩ := hrel
    have hlf := HL.out.leaf
    have hcw : cb < wr.heap.size := by omega
    have hMw : M < wr.heap.size := by omega
    have hne1 : ¬ M = wr.heap.size := by omega
    have hne2 : ¬ wr.heap.size = M := by omega
    have KG : Hid (∀ W, Chg (fun i => i = wr.heap.size) wr W → W.cell? ⟨cb, 0, none⟩ = some (.pointer (some ⟨tb, 0, none⟩)) ∧ W.cell? ⟨M + 1, 0, none⟩ = some (.string ⟨#[]⟩) ∧ W.cell? ⟨M + 1, 1, none⟩ = some (.string ⟨#[]⟩)) := fun W k => by
      obtain ⟨x0, x1, x2⟩ := KS.out wr (Bl.refl _)
      exact ⟨k.cellOf x0 (fun e => by have e : cb = wr.heap.size := e; omega), k.cellOf x1 (fun e => by have e : M + 1 = wr.heap.size := e; omega), k.cellOf x2 (fun e => by have e : M + 1 = wr.heap.size := e; omega)⟩
    go_wp2_with fail
    go_region_held3 (fun W => W.cell? ⟨cb, 0, none⟩ = some (.pointer (some ⟨tb, 0, none⟩)) ∧ W.cell? ⟨M + 1, 0, none⟩ = some (.string ⟨#[]⟩) ∧ W.cell? ⟨M + 1, 1, none⟩ = some (.string ⟨#[]⟩)) (first | exact KG.out _ (by ((repeat (first | with_reducible exact Chg.refl _ _ | with_reducible exact Chg.of_below k3 | with_reducible refine Chg.drew ?_ | with_reducible refine Chg.alloc ?_ _ | with_reducible refine Chg.setCell ?_ _ _ (fun _ => rfl))); done))) ((first | (go_at_call 37; refine (at_root (HT.out.below (Bl.trans HK1.out (by ((repeat (first | with_reducible exact Bl.refl _ | with_reducible exact k3 | with_reducible refine Bl.alloc ?_ _ | with_reducible refine Bl.drew ?_)); done)))) (HK.out.below (Bl.trans HK1.out (by ((repeat (first | with_reducible exact Bl.refl _ | with_reducible exact k3 | with_reducible refine Bl.alloc ?_ _ | with_reducible refine Bl.drew ?_)); done)))) HL.out.sm).mono ?_; rintro e w3 ⟨⟨v, rfl, hv⟩, k3r⟩; obtain ⟨ka, kc, va, vc, ia, ic, rfl, hN⟩ := hv; unfold nodeV; rw [hlf]; (have k3 : Bl wr w3 := Bl.trans (by ((repeat (first | with_reducible exact Bl.refl _ | with_reducible exact k3 | with_reducible refine Bl.alloc ?_ _ | with_reducible refine Bl.drew ?_)); done)) k3r); (first | (change Bl (wr.alloc O8).drew w3 at k3r; obtain ⟨q0, q1, q2, q3, z0, z1, z2, z3⟩ := cells_fresh (W := wr) (Bl.trans (Bl.drew (Bl.refl _)) k3r)) | skip))))
    all_goals
      have bM := below_keeps k3 B0.out hMw
      obtain ⟨u0, u1, u2, u3, v0, v1, v2, v3⟩ := cells4 bM
      have K3 := Lib.hid (Bl.trans HK1.out k3)
      have HN3 := Lib.hid hN
      have hw3 : wr.heap.size ≤ w3.heap.size := k3.size
      have hne3 : ¬ M = w3.heap.size := by omega
      have hne4 : ¬ w3.heap.size = M := by omega
      have hMl3 : M < w3.heap.size := by omega
      clear bM k3 k3r hN KG KS HC KC
      go_wp2_with fail
      refine bodyPost_ret (v := .tuple #[.agg #[.bool true, .slice ka n.keys.length kc, .slice va n.values.length vc, .slice ia n.kids.length ic], .bool true]) (by simp [results, Tryz.results27, go_sem, *]) rfl ?_
    · have kc4 := (chg4 (Bl.refl w3) M (.bool true) (.slice ka n.keys.length kc) (.slice va n.values.length vc) (.slice ia n.kids.length ic)).alloc (.cells #[.bool true, .slice ka n.keys.length kc, .slice va n.values.length vc, .slice ia n.kids.length ic] 61)
      have hb := K3.out.chg kc4 (fun i hi e => by omega)
      exact ⟨⟨_, rfl, ka, kc, va, vc, ia, ic, by unfold nodeV; rw [hlf], (HN3.out.chg kc4 (fun k e e' => by have e' : k = M := e'; omega)).mono (fun k _ e => by omega)⟩, hb⟩
    · have kw := chg4 (Bl.refl w3) wr.heap.size (.bool true) (.slice ka n.keys.length kc) (.slice va n.values.length vc) (.slice ia n.kids.length ic)
      have hb1 := K3.out.chg kw (fun i hi e => by omega)
      have kc4 := chg4 (Bl.refl ((((w3.setCell ⟨wr.heap.size, 0, none⟩ (.bool true)).setCell ⟨wr.heap.size, 1, none⟩ (.slice ka n.keys.length kc)).setCell ⟨wr.heap.size, 2, none⟩ (.slice va n.values.length vc)).setCell ⟨wr.heap.size, 3, none⟩ (.slice ia n.kids.length ic))) M (.bool true) (.slice ka n.keys.length kc) (.slice va n.values.length vc) (.slice ia n.kids.length ic)
      have hb := hb1.chg kc4 (fun i hi e => by omega)
      exact ⟨⟨_, rfl, ka, kc, va, vc, ia, ic, by unfold nodeV; rw [hlf], (HN3.out.chg kw (fun k e e' => by have e' : k = wr.heap.size := e'; omega)).chg kc4 (fun k e e' => by have e' : k = M := e'; omega) |>.mono (fun k _ e => by omega)⟩, hb⟩
end
end Go.Proofs.YthmimbmlcihkaaaGreat
