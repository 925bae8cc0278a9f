/-
  copied: the program's.
-/
import Derived.Test.YthmimbmlcihkaaaGreatNClone
namespace Go.Proofs.YthmimbmlcihkaaaGreat
open Go.RowKit
set_option linter.unusedSimpArgs false
set_option linter.unusedVariables false
set_option maxRecDepth 100000
/-- a node in memory of its own, which may grow in place -/
structure NodeSl (w : World) (K V I : Nat → Prop) (n : ND) (ka : Option Addr) (kc : Nat) (va : Option Addr) (vc : Nat) (ia : Option Addr) (ic : Nat) : Prop where
  keys : SlAt w K 9 1 (.slice ka n.keys.length kc) n.keys.length (tcells n.keys)
  values : SlAt w V 9 1 (.slice va n.values.length vc) n.values.length (tcells n.values)
  kids : SlAt w I 3 1 (.slice ia n.kids.length ic) n.kids.length (icells n.kids)
/-- three sets of blocks, none in two of them, all from M on -/
structure Apart3 (M : Nat) (K V I : Nat → Prop) : Prop where
  kv : ∀ j, K j → ¬ V j
  ki : ∀ j, K j → ¬ I j
  vi : ∀ j, V j → ¬ I j
  k : ∀ j, K j → M ≤ j
  v : ∀ j, V j → M ≤ j
  i : ∀ j, I j → M ≤ j
theorem NodeSl.rd {w : World} {M : Nat} {K V I : Nat → Prop} {n : ND} {ka : Option Addr} {kc : Nat} {va : Option Addr} {vc : Nat} {ia : Option Addr} {ic : Nat} (h : NodeSl w K V I n ka kc va vc ia ic) (a : Apart3 M K V I) : NodeIn w (fun j => M ≤ j) n ka kc va vc ia ic :=
  ⟨(h.keys.mono (fun j _ => a.k j)).rd, (h.values.mono (fun j _ => a.v j)).rd, (h.kids.mono (fun j _ => a.i j)).rd⟩
def TellsSl (w : World) (n : ND) (e : Ending) (w' : World) : Prop := ∃ ka kc va vc ia ic K V I, e = .returned (nodeV n ka kc va vc ia ic) ∧ NodeSl w' K V I n ka kc va vc ia ic ∧ Apart3 w.heap.size K V I ∧ ∀ j, K j ∨ V j ∨ I j → j < w'.heap.size
theorem SlAt.capped {w : World} {M : Nat} {t : TypeId} {size n : Nat} {v : Value} {xs : List Value} (h : SlAt w (fun j => M ≤ j) t size v n xs) : ∃ N, N = M ∧ SlAt w (fun j => N ≤ j ∧ j < w.heap.size) t size v n xs := ⟨M, rfl, h.mono (fun j hj e => ⟨e, hj⟩)⟩
theorem sl_fin {a b c : World} {B : Nat} {own : Nat → Prop} {t : TypeId} {size n : Nat} {v : Value} {xs : List Value} (r : SlAt a own t size v n xs) (k : Bl a b) (hc : Chg (fun i => i = B) b c) (hB : ∀ j, own j → j ≠ B) : SlAt c own t size v n xs :=
  SlAt.chg (SlAt.below r k) hc hB
set_option maxHeartbeats 4000000 in
theorem copied_sl (w : World) (own : Nat → Prop) (v : Value) (n : ND) (hv : NodeAt w own v n) (sm : n.Small) :
    Calls Tryz.prog 52 #[v] w fun e w' => TellsSl w n e w' ∧ Bl w w' := by
  obtain ⟨ka, kc, va, vc, ia, ic, rfl, h⟩ := hv
  obtain ⟨s1, s2, s3⟩ := sm
  have kB : Bl w ((w.alloc (.cells (nbox n ka kc va vc ia ic) 61)).alloc (.cells #[.bool false, .slice none 0 0, .slice none 0 0, .slice none 0 0] 61)) := ((Bl.refl w).alloc _).alloc _
  have b1 : ((w.alloc (.cells (nbox n ka kc va vc ia ic) 61)).alloc (.cells #[.bool false, .slice none 0 0, .slice none 0 0, .slice none 0 0] 61)).heap[w.heap.size]? = some (.cells (nbox n ka kc va vc ia ic) 61 (0, 0)) := block_old _ (block_new _ _)
  have b2 : ((w.alloc (.cells (nbox n ka kc va vc ia ic) 61)).alloc (.cells #[.bool false, .slice none 0 0, .slice none 0 0, .slice none 0 0] 61)).heap[w.heap.size + 1]? = some (.cells #[.bool false, .slice none 0 0, .slice none 0 0, .slice none 0 0] 61 (0, 0)) := by
    have := block_new (w.alloc (.cells (nbox n ka kc va vc ia ic) 61)) (.cells #[.bool false, .slice none 0 0, .slice none 0 0, .slice none 0 0] 61)
    simpa using this
  have hA := h.below kB
  unfold nodeV
  go_enter Tryz.func52, Tryz.ntmps52
  go_wp2_with fail
  have hW2 : w.heap.size ≤ ((w.alloc (.cells (nbox n ka kc va vc ia ic) 61)).alloc (.cells #[.bool false, .slice none 0 0, .slice none 0 0, .slice none 0 0] 61)).heap.size := kB.size
  unfold nbox at kB b1 b2 hA hW2
  generalize (w.alloc (.cells #[.bool n.leaf, .slice ka n.keys.length kc, .slice va n.values.length vc, .slice ia n.kids.length ic] 61)).alloc (.cells #[.bool false, .slice none 0 0, .slice none 0 0, .slice none 0 0] 61) = W2 at *
  have KC : Hid (∀ w', Chg (· = w.heap.size + 1) W2 w' → w'.cell? ⟨w.heap.size, 0, none⟩ = some (.bool n.leaf) ∧ w'.cell? ⟨w.heap.size, 1, none⟩ = some (.slice ka n.keys.length kc) ∧ w'.cell? ⟨w.heap.size, 2, none⟩ = some (.slice va n.values.length vc) ∧ w'.cell? ⟨w.heap.size, 3, none⟩ = some (.slice ia n.kids.length ic)) := fun w' kk => by
    have bb := kk.keeps b1 (by omega)
    exact ⟨(cell_of_block bb 0).trans rfl, (cell_of_block bb 1).trans rfl, (cell_of_block bb 2).trans rfl, (cell_of_block bb 3).trans rfl⟩
  have lt2 := lt_of_block b2
  go_region_held3 (fun w' => w'.cell? ⟨w.heap.size, 0, none⟩ = some (.bool n.leaf) ∧ w'.cell? ⟨w.heap.size, 1, none⟩ = some (.slice ka n.keys.length kc) ∧ w'.cell? ⟨w.heap.size, 2, none⟩ = some (.slice va n.values.length vc) ∧ w'.cell? ⟨w.heap.size, 3, none⟩ = some (.slice ia n.kids.length ic)) (first | exact KC.out _ (chg4 k16 _ _ _ _ _) | exact KC.out _ (Chg.of_below (by ((repeat (first | with_reducible exact Bl.refl _ | with_reducible exact k8 | with_reducible exact k12 | with_reducible exact k16 | with_reducible refine Bl.alloc ?_ _ | with_reducible refine Bl.drew ?_)); done)))) ((first | (go_at_call 80; refine (clone_ints_sl _ own (.slice ia n.kids.length ic) n.kids ?_ s3).mono ?_; exact RdAt.below hA.kids (by ((repeat (first | with_reducible exact Bl.refl _ | with_reducible exact k8 | with_reducible exact k12 | with_reducible exact k16 | with_reducible refine Bl.alloc ?_ _ | with_reducible refine Bl.drew ?_)); done)); rintro e w16 ⟨⟨v16, rfl, q16⟩, kk16⟩; obtain ⟨a16, cap16, rfl⟩ := SlAt.shape q16; (have k16 : Bl W2 w16 := Bl.trans (by ((repeat (first | with_reducible exact Bl.refl _ | with_reducible exact k8 | with_reducible exact k12 | with_reducible exact k16 | with_reducible refine Bl.alloc ?_ _ | with_reducible refine Bl.drew ?_)); done)) kk16); obtain ⟨M16, hM16, r16⟩ := SlAt.capped q16; clear q16; (have bl16 := below_keeps k16 b2 (lt_of_block b2)); (have z0 := (cell_of_block bl16 0).trans rfl); (have z1 := (cell_of_block bl16 1).trans rfl); (have z2 := (cell_of_block bl16 2).trans rfl); (have z3 := (cell_of_block bl16 3).trans rfl); (have f0 := free_of_block bl16 0); (have f1 := free_of_block bl16 1); (have f2 := free_of_block bl16 2); (have f3 := free_of_block bl16 3)) | (go_at_call 58; (have kq := k8); clear kq; refine (clone_texts_sl _ own (.slice va n.values.length vc) n.values ?_ s2).mono ?_; exact RdAt.below hA.values (by ((repeat (first | with_reducible exact Bl.refl _ | with_reducible exact k8 | with_reducible exact k12 | with_reducible exact k16 | with_reducible refine Bl.alloc ?_ _ | with_reducible refine Bl.drew ?_)); done)); rintro e w12 ⟨⟨v12, rfl, q12⟩, kk12⟩; obtain ⟨a12, cap12, rfl⟩ := SlAt.shape q12; (have k12 : Bl W2 w12 := Bl.trans (by ((repeat (first | with_reducible exact Bl.refl _ | with_reducible exact k8 | with_reducible exact k12 | with_reducible exact k16 | with_reducible refine Bl.alloc ?_ _ | with_reducible refine Bl.drew ?_)); done)) kk12); obtain ⟨M12, hM12, r12⟩ := SlAt.capped q12; clear q12) | (go_at_call 58; refine (clone_texts_sl _ own (.slice ka n.keys.length kc) n.keys ?_ s1).mono ?_; exact RdAt.below hA.keys (by ((repeat (first | with_reducible exact Bl.refl _ | with_reducible exact k8 | with_reducible exact k12 | with_reducible exact k16 | with_reducible refine Bl.alloc ?_ _ | with_reducible refine Bl.drew ?_)); done)); rintro e w8 ⟨⟨v8, rfl, q8⟩, kk8⟩; obtain ⟨a8, cap8, rfl⟩ := SlAt.shape q8; (have k8 : Bl W2 w8 := Bl.trans (by ((repeat (first | with_reducible exact Bl.refl _ | with_reducible exact k8 | with_reducible exact k12 | with_reducible exact k16 | with_reducible refine Bl.alloc ?_ _ | with_reducible refine Bl.drew ?_)); done)) kk8); obtain ⟨M8, hM8, r8⟩ := SlAt.capped q8; clear q8)))
  all_goals go_wp2
  all_goals
    have hB : w.heap.size + 1 < W2.heap.size := lt2
    refine bodyPost_ret (v := nodeV n a8 cap8 a12 cap12 a16 cap16) (by simp [results, Tryz.results33, go_sem, nodeV, *]) rfl ?_
    have hc := chg4 (Bl.refl w16) (w.heap.size + 1) (.bool n.leaf) (.slice a8 n.keys.length cap8) (.slice a12 n.values.length cap12) (.slice a16 n.kids.length cap16)
    have z8 := kk8.size
    have z12 := kk12.size
    have z16 := kk16.size
    simp only [World.size_drew] at hM8 hM12 hM16 z8 z12 z16
    have y8 := k8.size
    have y12 := k12.size
    have y16 := k16.size
    refine ⟨⟨_, _, _, _, _, _, (fun j => M8 ≤ j ∧ j < w8.heap.size), (fun j => M12 ≤ j ∧ j < w12.heap.size), (fun j => M16 ≤ j ∧ j < w16.heap.size), rfl, ⟨sl_fin r8 (by (repeat (first | with_reducible exact Bl.refl _ | with_reducible refine Bl.trans ?_ kk16 | with_reducible refine Bl.trans ?_ kk12 | with_reducible refine Bl.trans ?_ kk8 | with_reducible refine Bl.alloc ?_ _ | with_reducible refine Bl.drew ?_))) hc (fun j e => by omega), sl_fin r12 (by (repeat (first | with_reducible exact Bl.refl _ | with_reducible refine Bl.trans ?_ kk16 | with_reducible refine Bl.trans ?_ kk12 | with_reducible refine Bl.trans ?_ kk8 | with_reducible refine Bl.alloc ?_ _ | with_reducible refine Bl.drew ?_))) hc (fun j e => by omega), sl_fin r16 (by (repeat (first | with_reducible exact Bl.refl _ | with_reducible refine Bl.trans ?_ kk16 | with_reducible refine Bl.trans ?_ kk12 | with_reducible refine Bl.trans ?_ kk8 | with_reducible refine Bl.alloc ?_ _ | with_reducible refine Bl.drew ?_))) hc (fun j e => by omega)⟩, ⟨fun j e f => by omega, fun j e f => by omega, fun j e f => by omega, fun j e => by omega, fun j e => by omega, fun j e => by omega⟩, fun j e => ?_⟩, (Below.trans (kB.trans k16) (hc.below (Nat.le_trans hW2 k16.size) (fun i hi e => by omega)))⟩
    have := hc.size
    omega
theorem copied_any (w : World) (own : Nat → Prop) (v : Value) (n : ND) (hv : NodeAt w own v n) (sm : n.Small) :
    Calls Tryz.prog 52 #[v] w fun e w' => TellsNode w n e w' ∧ Bl w w' := by
  refine (copied_sl w own v n hv sm).mono ?_
  rintro e w' ⟨⟨ka, kc, va, vc, ia, ic, K, V, I, rfl, q, ap, _⟩, k⟩
  exact ⟨⟨_, rfl, _, _, _, _, _, _, rfl, q.rd ap⟩, k⟩
end Go.Proofs.YthmimbmlcihkaaaGreat
