/-
  The document's nodes: Copy.
-/
import Derived.Test.YtjdkalimaldofaaNRep
namespace Go.Proofs.Ytjdkalimaldofaa
open Go.RowKit
set_option linter.unusedSimpArgs false
set_option linter.unusedVariables false

theorem bl_size {a b : World} (h : Bl a b) : a.heap.size ≤ b.heap.size := h.size
theorem chg4 {a b : World} (k : Bl a b) (B : Nat) (u0 u1 u2 u3 : Value) : Chg (fun i => i = B) a ((((b.setCell ⟨B, 0, none⟩ u0).setCell ⟨B, 1, none⟩ u1).setCell ⟨B, 2, none⟩ u2).setCell ⟨B, 3, none⟩ u3) :=
  ((((Chg.of_below (own := fun i => i = B) k).setCell ⟨B, 0, none⟩ u0 (fun _ => rfl)).setCell ⟨B, 1, none⟩ u1 (fun _ => rfl)).setCell ⟨B, 2, none⟩ u2 (fun _ => rfl)).setCell ⟨B, 3, none⟩ u3 (fun _ => rfl)
theorem rd_fin {W a b c : World} {B M : Nat} {size n : Nat} {v : Value} {xs : List Value} (r : RdAt a (fun j => W.heap.size ≤ j) size v n xs) (k : Bl a b) (hc : Chg (fun i => i = B) b c) (hB : B < W.heap.size) (hM : M ≤ W.heap.size) : RdAt c (fun j => M ≤ j) size v n xs :=
  RdAt.keep (RdAt.below r k) (fun i hi e => hc.block i hi (by omega)) (fun i _ e => by omega) hc.size
theorem info9 : (Try.prog.info? 9).map (fun i => (i.zero, i.size, i.bytes)) = some (some (.string ⟨#[]⟩), 1, 16) := by kernel_rfl
theorem info3 : (Try.prog.info? 3).map (fun i => (i.zero, i.size, i.bytes)) = some (some (.int .i64 0), 1, 8) := by kernel_rfl
/-- a node handed back: its parts lie in new memory -/
def TellsNode (w : World) (n : ND) (e : Ending) (w' : World) : Prop := ∃ v, e = .returned v ∧ NodeAt w' (fun k => w.heap.size ≤ k) v n
/-- bounds that keep appends within the machine -/
structure ND.Small (n : ND) : Prop where
  keys : n.keys.length ≤ 8796093022208
  values : n.values.length ≤ 8796093022208
  kids : n.kids.length ≤ 17592186044416

set_option maxRecDepth 100000 in
set_option maxHeartbeats 4000000 in
theorem rcopy_any (w : World) (own : Nat → Prop) (v : Value) (n : ND) (hv : NodeAt w own v n) (sm : n.Small) :
    Calls Try.prog 9 #[v] w fun e w' => TellsNode w n e w' ∧ Bl w w' := by
  obtain ⟨ka, kc, va, vc, ia, ic, rfl, h⟩ := hv
  obtain ⟨i9, hi9, hz0, hz1, hz2⟩ := info_parts info9
  obtain ⟨i3, hi3, jz0, jz1, jz2⟩ := info_parts info3
  obtain ⟨s1, s2, s3⟩ := sm
  have kB : Bl w ((w.alloc (.cells (nbox n ka kc va vc ia ic) 25)).alloc (.cells #[.bool false, .slice none 0 0, .slice none 0 0, .slice none 0 0] 25)) := ((Bl.refl w).alloc _).alloc _
  have b1 : ((w.alloc (.cells (nbox n ka kc va vc ia ic) 25)).alloc (.cells #[.bool false, .slice none 0 0, .slice none 0 0, .slice none 0 0] 25)).heap[w.heap.size]? = some (.cells (nbox n ka kc va vc ia ic) 25 (0, 0)) := block_old _ (block_new _ _)
  have b2 : ((w.alloc (.cells (nbox n ka kc va vc ia ic) 25)).alloc (.cells #[.bool false, .slice none 0 0, .slice none 0 0, .slice none 0 0] 25)).heap[w.heap.size + 1]? = some (.cells #[.bool false, .slice none 0 0, .slice none 0 0, .slice none 0 0] 25 (0, 0)) := by
    have := block_new (w.alloc (.cells (nbox n ka kc va vc ia ic) 25)) (.cells #[.bool false, .slice none 0 0, .slice none 0 0, .slice none 0 0] 25)
    simpa using this
  have hA := h.below kB
  unfold nodeV
  go_enter Try.func9, Try.ntmps9
  go_wp2_with fail
  have hW2 : w.heap.size ≤ ((w.alloc (.cells (nbox n ka kc va vc ia ic) 25)).alloc (.cells #[.bool false, .slice none 0 0, .slice none 0 0, .slice none 0 0] 25)).heap.size := kB.size
  unfold nbox at kB b1 b2 hA hW2
  generalize (w.alloc (.cells #[.bool n.leaf, .slice ka n.keys.length kc, .slice va n.values.length vc, .slice ia n.kids.length ic] 25)).alloc (.cells #[.bool false, .slice none 0 0, .slice none 0 0, .slice none 0 0] 25) = W2 at *
  have KC : Hid (∀ w', Chg (· = w.heap.size + 1) W2 w' → w'.cell? ⟨w.heap.size, 0, none⟩ = some (.bool n.leaf) ∧ w'.cell? ⟨w.heap.size, 1, none⟩ = some (.slice ka n.keys.length kc) ∧ w'.cell? ⟨w.heap.size, 2, none⟩ = some (.slice va n.values.length vc) ∧ w'.cell? ⟨w.heap.size, 3, none⟩ = some (.slice ia n.kids.length ic)) := fun w' kk => by
    have bb := kk.keeps b1 (by omega)
    exact ⟨(cell_of_block bb 0).trans rfl, (cell_of_block bb 1).trans rfl, (cell_of_block bb 2).trans rfl, (cell_of_block bb 3).trans rfl⟩
  have lt2 := lt_of_block b2
  go_region_held3 (fun w' => w'.cell? ⟨w.heap.size, 0, none⟩ = some (.bool n.leaf) ∧ w'.cell? ⟨w.heap.size, 1, none⟩ = some (.slice ka n.keys.length kc) ∧ w'.cell? ⟨w.heap.size, 2, none⟩ = some (.slice va n.values.length vc) ∧ w'.cell? ⟨w.heap.size, 3, none⟩ = some (.slice ia n.kids.length ic)) (first | exact KC.out _ (chg4 k16 _ _ _ _ _) | exact KC.out _ (Chg.of_below (by ((repeat (first | with_reducible exact Bl.refl _ | with_reducible exact k8 | with_reducible exact k12 | with_reducible exact k16 | with_reducible refine Bl.alloc ?_ _ | with_reducible refine Bl.drew ?_)); done)))) ((first | (refine step_append_sl rfl (.tmp 5) (.tmp 7) 22 rfl 9 i9 (.string ⟨#[]⟩) 1 16 Try.underlying22 hi9 hz0 hz1 hz2 rfl (fun _ => False) _ 0 [] rfl (SlAt.nil _ _ _ _ _) own _ n.keys.length (tcells n.keys) rfl ?_ (tcells_one _) ?_ ?_ ?_; exact RdAt.below hA.keys (by ((repeat (first | with_reducible exact Bl.refl _ | with_reducible exact k8 | with_reducible exact k12 | with_reducible exact k16 | with_reducible refine Bl.alloc ?_ _ | with_reducible refine Bl.drew ?_)); done)); (unfold maxLen; omega); omega; intro v8 w8 hs8 hc8; rw [Nat.zero_add, List.nil_append] at hs8; obtain ⟨a8, cap8, rfl⟩ := hs8.shape; (have k8 : Bl W2 w8 := Bl.trans (by ((repeat (first | with_reducible exact Bl.refl _ | with_reducible exact k8 | with_reducible exact k12 | with_reducible exact k16 | with_reducible refine Bl.alloc ?_ _ | with_reducible refine Bl.drew ?_)); done)) (hc8.below (Nat.le_refl _) (fun _ _ e => e))); (have r8 : RdAt w8 (fun j => W2.heap.size ≤ j) 1 (.slice a8 n.keys.length cap8) n.keys.length (tcells n.keys) := hs8.rd.mono (fun j _ e => by rcases e with e | e; exact e.elim; rw [e]; exact (bl_size (by ((repeat (first | with_reducible exact Bl.refl _ | with_reducible exact k8 | with_reducible exact k12 | with_reducible exact k16 | with_reducible refine Bl.alloc ?_ _ | with_reducible refine Bl.drew ?_)); done))))); (have kk8 := hc8.below (Nat.le_refl _) (fun _ _ e => e)); clear hs8 hc8) | (refine step_append_sl rfl (.tmp 9) (.tmp 11) 22 rfl 9 i9 (.string ⟨#[]⟩) 1 16 Try.underlying22 hi9 hz0 hz1 hz2 rfl (fun _ => False) _ 0 [] rfl (SlAt.nil _ _ _ _ _) own _ n.values.length (tcells n.values) rfl ?_ (tcells_one _) ?_ ?_ ?_; exact RdAt.below hA.values (by ((repeat (first | with_reducible exact Bl.refl _ | with_reducible exact k8 | with_reducible exact k12 | with_reducible exact k16 | with_reducible refine Bl.alloc ?_ _ | with_reducible refine Bl.drew ?_)); done)); (unfold maxLen; omega); omega; intro v12 w12 hs12 hc12; rw [Nat.zero_add, List.nil_append] at hs12; obtain ⟨a12, cap12, rfl⟩ := hs12.shape; (have k12 : Bl W2 w12 := Bl.trans (by ((repeat (first | with_reducible exact Bl.refl _ | with_reducible exact k8 | with_reducible exact k12 | with_reducible exact k16 | with_reducible refine Bl.alloc ?_ _ | with_reducible refine Bl.drew ?_)); done)) (hc12.below (Nat.le_refl _) (fun _ _ e => e))); (have r12 : RdAt w12 (fun j => W2.heap.size ≤ j) 1 (.slice a12 n.values.length cap12) n.values.length (tcells n.values) := hs12.rd.mono (fun j _ e => by rcases e with e | e; exact e.elim; rw [e]; exact (bl_size (by ((repeat (first | with_reducible exact Bl.refl _ | with_reducible exact k8 | with_reducible exact k12 | with_reducible exact k16 | with_reducible refine Bl.alloc ?_ _ | with_reducible refine Bl.drew ?_)); done))))); (have kk12 := hc12.below (Nat.le_refl _) (fun _ _ e => e)); clear hs12 hc12) | (refine step_append_sl rfl (.tmp 13) (.tmp 15) 23 rfl 3 i3 (.int .i64 0) 1 8 Try.underlying23 hi3 jz0 jz1 jz2 rfl (fun _ => False) _ 0 [] rfl (SlAt.nil _ _ _ _ _) own _ n.kids.length (icells n.kids) rfl ?_ (icells_one _) ?_ ?_ ?_; exact RdAt.below hA.kids (by ((repeat (first | with_reducible exact Bl.refl _ | with_reducible exact k8 | with_reducible exact k12 | with_reducible exact k16 | with_reducible refine Bl.alloc ?_ _ | with_reducible refine Bl.drew ?_)); done)); (unfold maxLen; omega); omega; intro v16 w16 hs16 hc16; rw [Nat.zero_add, List.nil_append] at hs16; obtain ⟨a16, cap16, rfl⟩ := hs16.shape; (have k16 : Bl W2 w16 := Bl.trans (by ((repeat (first | with_reducible exact Bl.refl _ | with_reducible exact k8 | with_reducible exact k12 | with_reducible exact k16 | with_reducible refine Bl.alloc ?_ _ | with_reducible refine Bl.drew ?_)); done)) (hc16.below (Nat.le_refl _) (fun _ _ e => e))); (have r16 : RdAt w16 (fun j => W2.heap.size ≤ j) 1 (.slice a16 n.kids.length cap16) n.kids.length (icells n.kids) := hs16.rd.mono (fun j _ e => by rcases e with e | e; exact e.elim; rw [e]; exact (bl_size (by ((repeat (first | with_reducible exact Bl.refl _ | with_reducible exact k8 | with_reducible exact k12 | with_reducible exact k16 | with_reducible refine Bl.alloc ?_ _ | with_reducible refine Bl.drew ?_)); done))))); (have kk16 := hc16.below (Nat.le_refl _) (fun _ _ e => e)); clear hs16 hc16; (have bl16 := below_keeps k16 b2 (lt_of_block b2)); (have z0 := (cell_of_block bl16 0).trans rfl); (have z1 := (cell_of_block bl16 1).trans rfl); (have z2 := (cell_of_block bl16 2).trans rfl); (have z3 := (cell_of_block bl16 3).trans rfl); (have f0 := free_of_block bl16 0); (have f1 := free_of_block bl16 1); (have f2 := free_of_block bl16 2); (have f3 := free_of_block bl16 3))))
  all_goals go_wp2
  all_goals
    have hB : w.heap.size + 1 < W2.heap.size := lt2
    refine bodyPost_ret (v := nodeV n a8 cap8 a12 cap12 a16 cap16) (by simp [results, Try.results9, go_sem, nodeV, *]) rfl ?_
    have hc := chg4 (Bl.refl w16) (w.heap.size + 1) (.bool n.leaf) (.slice a8 n.keys.length cap8) (.slice a12 n.values.length cap12) (.slice a16 n.kids.length cap16)
    refine ⟨⟨_, rfl, _, _, _, _, _, _, rfl, ⟨rd_fin r8 ?_ hc hB hW2, rd_fin r12 ?_ hc hB hW2, rd_fin r16 (Bl.refl _) hc hB hW2⟩⟩, (Below.trans (kB.trans k16) (hc.below (Nat.le_trans hW2 k16.size) (fun i hi e => by omega)))⟩
    all_goals (repeat (first | with_reducible exact Bl.refl _ | with_reducible refine Bl.trans ?_ kk16 | with_reducible refine Bl.trans ?_ kk12 | with_reducible refine Bl.trans ?_ kk8 | with_reducible refine Bl.alloc ?_ _ | with_reducible refine Bl.drew ?_))
end Go.Proofs.Ytjdkalimaldofaa
