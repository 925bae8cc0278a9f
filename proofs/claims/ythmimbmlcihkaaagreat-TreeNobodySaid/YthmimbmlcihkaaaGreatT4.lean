/-
  A tree's node at the root: at, fits, down of a leaf, Get of a leaf.
-/
import Derived.Test.YthmimbmlcihkaaaGreatT3
namespace Go.Proofs.YthmimbmlcihkaaaGreat
open Go.RowKit
set_option linter.unusedSimpArgs false
set_option linter.unusedVariables false
set_option maxRecDepth 100000

section
variable {w : World} {tb kb : Nat} {size : Int} {rv : Value} {n : ND} {ps : List Nat} {sector : Int}
set_option maxHeartbeats 2000000 in
theorem at_root {own : Nat → Prop} (h : TreeIn w tb size rv kb) {b : Nat} (hk : KnotOn own w b n ps sector) (sm : n.Small) : Calls Tryz.prog 37 #[ptr tb, ptr b, noSpan] w fun e w' => (∃ v, e = .returned (.tuple #[v, .bool true]) ∧ NodeAt w' own v n) ∧ Bl w w' := by
  have HK := Lib.hid hk.all
  have HT := Lib.hid h
  have hbl := hk.all.lt
  obtain ⟨ka, kc, va, vc, ia, ic, pa, pc, h1, h2, h3⟩ := hk
  have H2 := Lib.hid h2
  have KN : Hid (∀ W, Bl w W → W.cell? ⟨b, 0, none⟩ = some (.bool n.leaf) ∧ W.cell? ⟨b, 1, none⟩ = some (.slice ka n.keys.length kc) ∧ W.cell? ⟨b, 2, none⟩ = some (.slice va n.values.length vc) ∧ W.cell? ⟨b, 3, none⟩ = some (.slice ia n.kids.length ic)) := fun W k => by
    have hB := below_keeps k h1 hbl
    refine ⟨?_, ?_, ?_, ?_⟩ <;> (rw [cell_of_block hB]; rfl)
  clear h h1 h2 h3
  have k1 : Bl w ((w.alloc (.cells #[.string ⟨#[]⟩, .string ⟨#[]⟩] 92)).alloc (.cells #[.bool false, .slice none 0 0, .slice none 0 0, .slice none 0 0] 61)) := ((Bl.refl w).alloc _).alloc _
  have b0 : ((w.alloc (.cells #[.string ⟨#[]⟩, .string ⟨#[]⟩] 92)).alloc (.cells #[.bool false, .slice none 0 0, .slice none 0 0, .slice none 0 0] 61)).heap[w.heap.size]? = some (.cells #[.string ⟨#[]⟩, .string ⟨#[]⟩] 92 (0, 0)) := block_old _ (block_new _ _)
  have b1 : ((w.alloc (.cells #[.string ⟨#[]⟩, .string ⟨#[]⟩] 92)).alloc (.cells #[.bool false, .slice none 0 0, .slice none 0 0, .slice none 0 0] 61)).heap[w.heap.size + 1]? = some (.cells #[.bool false, .slice none 0 0, .slice none 0 0, .slice none 0 0] 61 (0, 0)) := block_new' _ (by simp)
  unfold ptr noSpan at *
  go_enter Tryz.func37, Tryz.ntmps37
  go_wp2_with fail
  generalize (w.alloc (.cells #[.string ⟨#[]⟩, .string ⟨#[]⟩] 92)).alloc (.cells #[.bool false, .slice none 0 0, .slice none 0 0, .slice none 0 0] 61) = w1 at *
  have hM1 : w.heap.size < w1.heap.size := lt_of_block b0
  have KS : Hid (∀ W, Bl w1 W → W.cell? ⟨w.heap.size, 0, none⟩ = some (.string ⟨#[]⟩) ∧ W.cell? ⟨w.heap.size, 1, none⟩ = some (.string ⟨#[]⟩)) := fun W k => by
    have hB := below_keeps k b0 hM1
    refine ⟨?_, ?_⟩ <;> (rw [cell_of_block hB]; rfl)
  have K1 := Lib.hid k1
  clear k1 b0
  go_region_held3 (fun W => W.cell? ⟨w.heap.size, 0, none⟩ = some (.string ⟨#[]⟩) ∧ W.cell? ⟨w.heap.size, 1, none⟩ = some (.string ⟨#[]⟩) ∧ W.cell? ⟨b, 0, none⟩ = some (.bool n.leaf) ∧ W.cell? ⟨b, 1, none⟩ = some (.slice ka n.keys.length kc) ∧ W.cell? ⟨b, 2, none⟩ = some (.slice va n.values.length vc) ∧ W.cell? ⟨b, 3, none⟩ = some (.slice ia n.kids.length ic)) (first | exact (fun p q => ⟨p.1, p.2, q⟩) (KS.out _ (by ((repeat (first | with_reducible exact Bl.refl _ | with_reducible exact k3 | with_reducible refine Bl.alloc ?_ _ | with_reducible refine Bl.drew ?_)); done))) (KN.out _ (Bl.trans K1.out (by ((repeat (first | with_reducible exact Bl.refl _ | with_reducible exact k3 | with_reducible refine Bl.alloc ?_ _ | with_reducible refine Bl.drew ?_)); done))))) ((first | (go_at_call 75; refine (fetch_any (HT.out.below (Bl.trans K1.out (by ((repeat (first | with_reducible exact Bl.refl _ | with_reducible exact k3 | with_reducible refine Bl.alloc ?_ _ | with_reducible refine Bl.drew ?_)); done)))) (HK.out.below (Bl.trans K1.out (by ((repeat (first | with_reducible exact Bl.refl _ | with_reducible exact k3 | with_reducible refine Bl.alloc ?_ _ | with_reducible refine Bl.drew ?_)); done))))).mono ?_; rintro e w2 ⟨rfl, rfl⟩) | (go_at_call 76; refine (holds_root _ own _ n ⟨ka, kc, va, vc, ia, ic, rfl, H2.out.below (Bl.trans K1.out (by ((repeat (first | with_reducible exact Bl.refl _ | with_reducible exact k3 | with_reducible refine Bl.alloc ?_ _ | with_reducible refine Bl.drew ?_)); done)))⟩ sm).mono ?_; rintro e w3 ⟨rfl, k3r⟩; (have k3 : Bl w1 w3 := Bl.trans (by ((repeat (first | with_reducible exact Bl.refl _ | with_reducible exact k3 | with_reducible refine Bl.alloc ?_ _ | with_reducible refine Bl.drew ?_)); done)) k3r))))
  obtain ⟨c0, c1, c2, c3⟩ := KN.out _ (Bl.trans K1.out k3)
  have hM2 : w.heap.size + 1 < w3.heap.size := Nat.lt_of_lt_of_le (lt_of_block b1) k3.size
  have b3 := below_keeps k3 b1 (lt_of_block b1)
  obtain ⟨z0, z1, z2, z3, y0, y1, y2, y3⟩ := cells4 b3
  have K3 := Lib.hid (Bl.trans K1.out k3)
  have B3 := Lib.hid b3
  clear k3 k3r b1 b3 KS
  generalize hM : w.heap.size + 1 = M at *
  have HM := Lib.hid hM
  clear hM
  go_wp2_with fail
  have hc := chg4 (Bl.refl w3) M (.bool n.leaf) (.slice ka n.keys.length kc) (.slice va n.values.length vc) (.slice ia n.kids.length ic)
  have hb : Bl w ((((w3.setCell ⟨M, 0, none⟩ (.bool n.leaf)).setCell ⟨M, 1, none⟩ (.slice ka n.keys.length kc)).setCell ⟨M, 2, none⟩ (.slice va n.values.length vc)).setCell ⟨M, 3, none⟩ (.slice ia n.kids.length ic)) := K3.out.chg hc (fun i hi e => by have := HM.out; omega)
  refine bodyPost_ret (v := .tuple #[.agg #[.bool n.leaf, .slice ka n.keys.length kc, .slice va n.values.length vc, .slice ia n.kids.length ic], .bool true]) (by simp [results, Tryz.results37, go_sem, *]) rfl ?_
  exact ⟨⟨_, rfl, ka, kc, va, vc, ia, ic, rfl, H2.out.below hb⟩, hb⟩
end
end Go.Proofs.YthmimbmlcihkaaaGreat
