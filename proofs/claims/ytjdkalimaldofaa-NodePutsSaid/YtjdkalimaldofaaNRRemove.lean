/-
  Remove: the document's, the walk.
-/
import Derived.Test.YtjdkalimaldofaaNRPut
import Derived.Test.YtjdkalimaldofaaNRemove
namespace Go.Proofs.Ytjdkalimaldofaa
open Go.RowKit
set_option linter.unusedSimpArgs false
set_option linter.unusedVariables false
set_option maxRecDepth 100000 in
set_option maxHeartbeats 4000000 in
theorem rremove_inner (w : World) (own : Nat → Prop) (v : Value) (n : ND) (key : ByteArray) (hv : NodeAt w own v n) (sm : n.Small) (hf : n.leaf = false) :
    Calls Try.prog 29 #[v, .string key] w fun e w' => (∃ u r, e = .returned (.tuple #[u, .bool false]) ∧ n.above key r ∧ NodeAt w' (fun j => w.heap.size ≤ j) u n) ∧ Bl w w' := by
  have hv' := hv
  obtain ⟨ka, kc, va, vc, ia, ic, rfl, h⟩ := hv
  obtain ⟨i9, hi9, hz90, hz91, hz92⟩ := info_parts info9
  unfold nodeV
  unfold nodeV at hv'
  rw [hf] at hv' ⊢
  have h := h.mono (own2 := fun j => own j ∧ j < w.heap.size) (fun j hj e => ⟨e, hj⟩)
  have HF := Lib.hid hf
  have kB : Bl w ((w.alloc (.cells #[.bool false, .slice ka n.keys.length kc, .slice va n.values.length vc, .slice ia n.kids.length ic] 25)).alloc (.cells #[.bool false, .slice none 0 0, .slice none 0 0, .slice none 0 0] 25)) := ((Bl.refl w).alloc _).alloc _
  have b3 : ((w.alloc (.cells #[.bool false, .slice ka n.keys.length kc, .slice va n.values.length vc, .slice ia n.kids.length ic] 25)).alloc (.cells #[.bool false, .slice none 0 0, .slice none 0 0, .slice none 0 0] 25)).heap[w.heap.size]? = some (.cells #[.bool false, .slice ka n.keys.length kc, .slice va n.values.length vc, .slice ia n.kids.length ic] 25 (0, 0)) := block_old _ (block_new _ _)
  have b6 : ((w.alloc (.cells #[.bool false, .slice ka n.keys.length kc, .slice va n.values.length vc, .slice ia n.kids.length ic] 25)).alloc (.cells #[.bool false, .slice none 0 0, .slice none 0 0, .slice none 0 0] 25)).heap[w.heap.size + 1]? = some (.cells #[.bool false, .slice none 0 0, .slice none 0 0, .slice none 0 0] 25 (0, 0)) := block_new' _ (by simp)
  have hA := hv'.bl kB
  have hin := h.below kB
  clear h hf
  obtain ⟨x0, x1, x2, x3, -⟩ := cells4 b3
  go_enter Try.func29, Try.ntmps29
  go_wp2_with fail
  generalize (w.alloc (.cells #[.bool false, .slice ka n.keys.length kc, .slice va n.values.length vc, .slice ia n.kids.length ic] 25)).alloc (.cells #[.bool false, .slice none 0 0, .slice none 0 0, .slice none 0 0] 25) = W1 at *
  refine (rfindinner_any W1 _ _ n key hA sm HF.out).mono ?_
  rintro e w3 ⟨⟨r, rfl, hat⟩, k3⟩
  have b33 := below_keeps k3 b3 (lt_of_block b3)
  have b63 := below_keeps k3 b6 (lt_of_block b6)
  have hA3 := hA.bl k3
  have hin3 := hin.below k3
  have K3 := kB.trans k3
  have HAT := Lib.hid hat
  have hrl := hat.le
  have r0 : (0 : Int) ≤ (r : Int) := by omega
  have l2 : w.heap.size + 1 < w3.heap.size := lt_of_block b63
  clear x0 x1 x2 x3 b3 b6 hA kB k3 hin hat
  obtain ⟨x0, x1, x2, x3, -⟩ := cells4 b33
  go_wp2_with fail
  refine (rcopy_any w3 _ _ n hA3 sm).mono ?_
  rintro e w4 ⟨⟨u4, rfl, ka2, kc2, va2, vc2, ia2, ic2, rfl, q4⟩, k4⟩
  unfold nodeV
  rw [HF.out]
  have b64 := below_keeps k4 b63 (lt_of_block b63)
  have K4 := K3.trans k4
  clear x0 x1 x2 x3 b33 b63
  obtain ⟨y0, y1, y2, y3, f0, f1, f2, f3⟩ := cells4 b64
  go_wp2_with fail
  have hc4 := chg4 (Bl.refl w4) (w.heap.size + 1) (.bool false) (.slice ka2 n.keys.length kc2) (.slice va2 n.values.length vc2) (.slice ia2 n.kids.length ic2)
  refine bodyPost_ret (v := .tuple #[.agg #[.bool false, .slice ka2 n.keys.length kc2, .slice va2 n.values.length vc2, .slice ia2 n.kids.length ic2], .bool false]) (by simp [results, Try.results29, go_sem, *]) rfl ?_
  refine ⟨⟨_, r, rfl, HAT.out, ?_⟩, K4.chg hc4 (fun i hi e => by omega)⟩
  skip
  refine ⟨ka2, kc2, va2, vc2, ia2, ic2, by unfold nodeV; rw [HF.out], (q4.chg hc4 (fun j hj e => by omega)).mono (fun j _ hj => by omega)⟩
set_option maxRecDepth 100000 in
set_option maxHeartbeats 4000000 in
theorem rremove_leaf (w : World) (own : Nat → Prop) (v : Value) (n : ND) (key : ByteArray) (hv : NodeAt w own v n) (sm : n.Small) (hf : n.leaf = true) (hfm : n.values.length = n.keys.length) :
    Calls Try.prog 29 #[v, .string key] w fun e w' => (∃ u r, e = .returned (.tuple #[u, .bool (n.finds key r)]) ∧ n.at key r ∧ NodeAt w' (fun j => w.heap.size ≤ j) u (if n.finds key r = true then n.without r else n)) ∧ Bl w w' := by
  have hv' := hv
  obtain ⟨ka, kc, va, vc, ia, ic, rfl, h⟩ := hv
  obtain ⟨i9, hi9, hz90, hz91, hz92⟩ := info_parts info9
  unfold nodeV
  unfold nodeV at hv'
  rw [hf] at hv' ⊢
  have h := h.mono (own2 := fun j => own j ∧ j < w.heap.size) (fun j hj e => ⟨e, hj⟩)
  have HF := Lib.hid hf
  have HFM := Lib.hid hfm
  have hfb : ((n.values.length : Int) != (n.keys.length : Int)) = false := by simp [hfm]
  have HKN : Hid (n.keys.length ≤ 8796093022208) := sm.keys
  clear hfm
  have kB : Bl w ((w.alloc (.cells #[.bool true, .slice ka n.keys.length kc, .slice va n.values.length vc, .slice ia n.kids.length ic] 25)).alloc (.cells #[.bool false, .slice none 0 0, .slice none 0 0, .slice none 0 0] 25)) := ((Bl.refl w).alloc _).alloc _
  have b3 : ((w.alloc (.cells #[.bool true, .slice ka n.keys.length kc, .slice va n.values.length vc, .slice ia n.kids.length ic] 25)).alloc (.cells #[.bool false, .slice none 0 0, .slice none 0 0, .slice none 0 0] 25)).heap[w.heap.size]? = some (.cells #[.bool true, .slice ka n.keys.length kc, .slice va n.values.length vc, .slice ia n.kids.length ic] 25 (0, 0)) := block_old _ (block_new _ _)
  have b6 : ((w.alloc (.cells #[.bool true, .slice ka n.keys.length kc, .slice va n.values.length vc, .slice ia n.kids.length ic] 25)).alloc (.cells #[.bool false, .slice none 0 0, .slice none 0 0, .slice none 0 0] 25)).heap[w.heap.size + 1]? = some (.cells #[.bool false, .slice none 0 0, .slice none 0 0, .slice none 0 0] 25 (0, 0)) := block_new' _ (by simp)
  have hA := hv'.bl kB
  have hin := h.below kB
  clear h hf
  obtain ⟨x0, x1, x2, x3, -⟩ := cells4 b3
  go_enter Try.func29, Try.ntmps29
  go_wp2_with fail
  generalize (w.alloc (.cells #[.bool true, .slice ka n.keys.length kc, .slice va n.values.length vc, .slice ia n.kids.length ic] 25)).alloc (.cells #[.bool false, .slice none 0 0, .slice none 0 0, .slice none 0 0] 25) = W1 at *
  refine (rfindleaf_any W1 _ _ n key hA sm HF.out).mono ?_
  rintro e w3 ⟨⟨r, rfl, hat⟩, k3⟩
  have b33 := below_keeps k3 b3 (lt_of_block b3)
  have b63 := below_keeps k3 b6 (lt_of_block b6)
  have hA3 := hA.bl k3
  have hin3 := hin.below k3
  have K3 := kB.trans k3
  have HAT := Lib.hid hat
  have hrl := hat.le
  have r0 : (0 : Int) ≤ (r : Int) := by omega
  have l2 : w.heap.size + 1 < w3.heap.size := lt_of_block b63
  clear x0 x1 x2 x3 b3 b6 hA kB k3 hin hat
  obtain ⟨x0, x1, x2, x3, -⟩ := cells4 b33
  by_cases hfi : n.finds key r = true
  · have HN : Hid ((if n.finds key r = true then n.without r else n) = n.without r) := if_pos hfi
    have HFI := Lib.hid hfi
    have hrn : r < n.keys.length := by
      have hq := hfi
      unfold ND.finds at hq
      rw [Bool.and_eq_true, decide_eq_true_eq] at hq
      exact hq.1
    rw [hfi]
    clear hfi
    go_wp2_with fail
    refine (rcopy_sl w3 _ _ n hA3 sm).mono ?_
    rintro e w4 ⟨⟨ka2, kc2, va2, vc2, ia2, ic2, K, V, I, rfl, hsl, hap, htop⟩, k4⟩
    unfold nodeV
    rw [HF.out]
    clear x0 x1 x2 x3
    have A5 : Bl w4 (w4.alloc (.cells #[.bool true, .slice ka2 n.keys.length kc2, .slice va2 n.values.length vc2, .slice ia2 n.kids.length ic2] 25)) := (Bl.refl _).alloc _
    have b8 : (w4.alloc (.cells #[.bool true, .slice ka2 n.keys.length kc2, .slice va2 n.values.length vc2, .slice ia2 n.kids.length ic2] 25)).heap[w4.heap.size]? = some (.cells #[.bool true, .slice ka2 n.keys.length kc2, .slice va2 n.values.length vc2, .slice ia2 n.kids.length ic2] 25 (0, 0)) := block_new _ _
    have b36 := below_keeps (k4.trans A5) b33 (lt_of_block b33)
    have b66 := below_keeps (k4.trans A5) b63 (lt_of_block b63)
    have K6 := (K3.trans k4).trans A5
    have hi6 := hsl.kids.below A5
    have hin6 := hin3.below (k4.trans A5)
    have l24 := k4.size
    have l8 : w4.heap.size < (w4.alloc (.cells #[.bool true, .slice ka2 n.keys.length kc2, .slice va2 n.values.length vc2, .slice ia2 n.kids.length ic2] 25)).heap.size := lt_of_block b8
    have ap := Lib.hid hap
    have tp := Lib.hid htop
    clear b33 b63 hA3 K3 k4 hsl hap htop hin3 A5
    obtain ⟨x0, x1, x2, x3, -⟩ := cells4 b36
    go_upto_region 5 with fail
    generalize hW6 : w4.alloc (.cells #[.bool true, .slice ka2 n.keys.length kc2, .slice va2 n.values.length vc2, .slice ia2 n.kids.length ic2] 25) = w6 at *
    generalize hD8 : w4.heap.size = D8 at *
    clear hW6 x0 x1 x2 x3
    have l6 : w.heap.size + 1 < D8 := by omega
    have hrv : r < n.values.length := by have := HFM.out; omega
    have HKM : Hid (n.keys.length + 1 ≤ 8796093022209 ∧ n.values.length + 1 ≤ 8796093022209 ∧ r + 1 ≤ n.keys.length ∧ r + 1 ≤ n.values.length) := ⟨by have := HKN.out; omega, by have := HKN.out; have := HFM.out; omega, hrn, hrv⟩
    have L6 := Lib.hid l6
    have LW6 : Hid (D8 < w6.heap.size) := l8
    have hdl : D8 < w6.heap.size := l8
    have hdw : w.heap.size < w6.heap.size := by omega
    have hwr : IntKind.i64.wrap ((r : Int) + 1) = (r : Int) + 1 := IntWalk.i64_in _ ⟨by omega, by have := HKM.out; omega⟩
    obtain ⟨kta, ktc, hktr, hkt⟩ := slice_to Try.underlying22 hi9 hz91 hin6.keys (Nat.le_of_lt hrn)
    obtain ⟨kfa, kfc, hkfr, hkf⟩ := slice_from Try.underlying22 hi9 hz91 hin6.keys (show r + 1 ≤ n.keys.length from hrn)
    obtain ⟨vta, vtc, hvtr, hvt⟩ := slice_to Try.underlying22 hi9 hz91 hin6.values (Nat.le_of_lt hrv)
    obtain ⟨vfa, vfc, hvfr, hvf⟩ := slice_from Try.underlying22 hi9 hz91 hin6.values (show r + 1 ≤ n.values.length from hrv)
    rw [tcells_take] at hkt hvt
    rw [tcells_drop] at hkf hvf
    have hkfr : ∀ W, (Instr.slice 22 (.slice ka n.keys.length kc) (some (.int .i64 ((r : Int) + 1))) none none).run Try.prog W = .ok (.slice kfa (n.keys.length - (r + 1)) kfc) W := hkfr
    have hvfr : ∀ W, (Instr.slice 22 (.slice va n.values.length vc) (some (.int .i64 ((r : Int) + 1))) none none).run Try.prog W = .ok (.slice vfa (n.values.length - (r + 1)) vfc) W := hvfr
    have FKT : Hid (∀ w', Bl w6 w' → RdAt w' (fun j => own j ∧ j < w.heap.size) 1 (.slice kta r ktc) r (tcells (n.keys.take r))) := fun w' k => hkt.below k
    have FKF : Hid (∀ w', Bl w6 w' → RdAt w' (fun j => own j ∧ j < w.heap.size) 1 (.slice kfa (n.keys.length - (r + 1)) kfc) (n.keys.length - (r + 1)) (tcells (n.keys.drop (r + 1)))) := fun w' k => hkf.below k
    have FVT : Hid (∀ w', Bl w6 w' → RdAt w' (fun j => own j ∧ j < w.heap.size) 1 (.slice vta r vtc) r (tcells (n.values.take r))) := fun w' k => hvt.below k
    have FVF : Hid (∀ w', Bl w6 w' → RdAt w' (fun j => own j ∧ j < w.heap.size) 1 (.slice vfa (n.values.length - (r + 1)) vfc) (n.values.length - (r + 1)) (tcells (n.values.drop (r + 1)))) := fun w' k => hvf.below k
    have FK1 : Hid (∀ w', Bl w6 w' → w'.cell? ⟨w.heap.size, 1, none⟩ = some (.slice ka n.keys.length kc)) := fun w' k => (cells4 (below_keeps k b36 (lt_of_block b36))).2.1
    have FS1 : Hid (∀ w' u, Bl w6 w' → (w'.setCell ⟨D8, 1, none⟩ u).cell? ⟨w.heap.size, 1, none⟩ = some (.slice ka n.keys.length kc)) := fun w' u k => (World.cell?_setCell_other _ _ _ _ (fun e => by injection e with e1; omega)).trans ((cells4 (below_keeps k b36 (lt_of_block b36))).2.1)
    have HVT := Lib.hid hvtr
    have HVF := Lib.hid hvfr
    clear hkt hkf hvt hvf hvtr hvfr hin6
    go_region_held3 (fun w' => w'.cell? ⟨w.heap.size, 1, none⟩ = some (.slice ka n.keys.length kc)) (first | exact FS1.out _ _ (by ((repeat (first | with_reducible exact Bl.refl _ | with_reducible exact k9 | with_reducible exact k8 | with_reducible exact k7 | with_reducible refine Bl.alloc ?_ _ | with_reducible refine Bl.drew ?_)); done)) | exact FK1.out _ (by ((repeat (first | with_reducible exact Bl.refl _ | with_reducible exact k9 | with_reducible exact k8 | with_reducible exact k7 | with_reducible refine Bl.alloc ?_ _ | with_reducible refine Bl.drew ?_)); done))) ((first | (refine step_append_sl rfl (.tmp 40) (.tmp 45) 22 rfl 9 i9 (.string ⟨#[]⟩) 1 16 Try.underlying22 hi9 hz90 hz91 hz92 rfl (fun j => w6.heap.size ≤ j) _ (r) (tcells (n.keys.take r)) rfl (g7.below (by ((repeat (first | with_reducible exact Bl.refl _ | with_reducible refine Bl.alloc ?_ _ | with_reducible refine Bl.drew ?_)); done))) (fun j => own j ∧ j < w.heap.size) _ (n.keys.length - (r + 1)) (tcells (n.keys.drop (r + 1))) rfl (FKF.out _ (by ((repeat (first | with_reducible exact Bl.refl _ | with_reducible exact k9 | with_reducible exact k8 | with_reducible exact k7 | with_reducible refine Bl.alloc ?_ _ | with_reducible refine Bl.drew ?_)); done))) (tcells_one _) ?_ ?_ ?_; (have := HKM.out; unfold maxLen; omega); (have := HKM.out; omega); intro v9 w9 hs hc; obtain ⟨a9, cap9, rfl⟩ := hs.shape; (have k9 : Bl w6 w9 := Bl.chg (by ((repeat (first | with_reducible exact Bl.refl _ | with_reducible exact k9 | with_reducible exact k8 | with_reducible exact k7 | with_reducible refine Bl.alloc ?_ _ | with_reducible refine Bl.drew ?_)); done)) hc (fun i hi e => by omega)); (have g9 := hs.mono (own2 := fun j => w6.heap.size ≤ j) (fun j hj e => by rcases e with e | e; exact e; rw [e]; exact bl_size (by ((repeat (first | with_reducible exact Bl.refl _ | with_reducible exact k9 | with_reducible exact k8 | with_reducible exact k7 | with_reducible refine Bl.alloc ?_ _ | with_reducible refine Bl.drew ?_)); done)))); clear hs hc; (have b9 := below_keeps k9 b8 (lt_of_block b8)); obtain ⟨x0, x1, x2, x3, f0, f1, f2, f3⟩ := cells4 b9) | (refine step_append_sl rfl (.tmp 35) (.tmp 39) 22 rfl 9 i9 (.string ⟨#[]⟩) 1 16 Try.underlying22 hi9 hz90 hz91 hz92 rfl (fun _ => False) _ 0 [] rfl (SlAt.nil _ _ _ _ _) (fun j => own j ∧ j < w.heap.size) _ r (tcells (n.keys.take r)) rfl (FKT.out _ (by ((repeat (first | with_reducible exact Bl.refl _ | with_reducible exact k9 | with_reducible exact k8 | with_reducible exact k7 | with_reducible refine Bl.alloc ?_ _ | with_reducible refine Bl.drew ?_)); done))) (tcells_one _) ?_ ?_ ?_; (have := HKM.out; unfold maxLen; omega); (have := HKM.out; omega); intro v7 w7 hs hc; rw [Nat.zero_add, List.nil_append] at hs; obtain ⟨a7, cap7, rfl⟩ := hs.shape; (have k7 : Bl w6 w7 := Bl.chg (by ((repeat (first | with_reducible exact Bl.refl _ | with_reducible exact k9 | with_reducible exact k8 | with_reducible exact k7 | with_reducible refine Bl.alloc ?_ _ | with_reducible refine Bl.drew ?_)); done)) hc (fun i hi e => e)); (have g7 := hs.mono (own2 := fun j => w6.heap.size ≤ j) (fun j hj e => by rcases e with e | e; exact e.elim; rw [e]; exact bl_size (by ((repeat (first | with_reducible exact Bl.refl _ | with_reducible exact k9 | with_reducible exact k8 | with_reducible exact k7 | with_reducible refine Bl.alloc ?_ _ | with_reducible refine Bl.drew ?_)); done)))); (have kk7 := hc.below (Nat.le_refl _) (fun _ _ e => e)); clear hs hc)))
    all_goals
      have b11 : (w9.setCell ⟨D8, 1, none⟩ (.slice a9 (r + (n.keys.length - (r + 1))) cap9)).heap[D8]? = some (.cells #[.bool true, .slice a9 (r + (n.keys.length - (r + 1))) cap9, .slice va2 n.values.length vc2, .slice ia2 n.kids.length ic2] 25 (0, 0)) := by rw [block_set b9]; rfl
      have c11 : Chg (fun j => j = D8) w9 (w9.setCell ⟨D8, 1, none⟩ (.slice a9 (r + (n.keys.length - (r + 1))) cap9)) := (Chg.refl _ _).setCell _ _ (fun _ => rfl)
      generalize w9.setCell ⟨D8, 1, none⟩ (.slice a9 (r + (n.keys.length - (r + 1))) cap9) = w11 at *
      have hl6 := L6.out
      have s9 := k9.size
      have s11 := c11.size
      have b311 := c11.keeps (below_keeps k9 b36 (lt_of_block b36)) (by omega)
      have b611 := c11.keeps (below_keeps k9 b66 (lt_of_block b66)) (by omega)
      have hk11 := g9.chg c11 (fun j hj e => by omega)
      have hi11 := (hi6.below k9).chg c11 (fun j hj e => by have := tp.out _ (Or.inr (Or.inr hj)); omega)
      have K11 := (K6.trans k9).chg c11 (fun i hi e => by omega)
      have FVT2 : Hid (∀ w', Bl w11 w' → RdAt w' (fun j => own j ∧ j < w.heap.size) 1 (.slice vta r vtc) r (tcells (n.values.take r))) := fun w' k => ((FVT.out _ k9).chg c11 (fun j hj e => by omega)).below k
      have FVF2 : Hid (∀ w', Bl w11 w' → RdAt w' (fun j => own j ∧ j < w.heap.size) 1 (.slice vfa (n.values.length - (r + 1)) vfc) (n.values.length - (r + 1)) (tcells (n.values.drop (r + 1)))) := fun w' k => ((FVF.out _ k9).chg c11 (fun j hj e => by omega)).below k
      have FK2 : Hid (∀ w', Bl w11 w' → w'.cell? ⟨w.heap.size, 2, none⟩ = some (.slice va n.values.length vc)) := fun w' k => (cells4 (below_keeps k b311 (lt_of_block b311))).2.2.1
      have FS2 : Hid (∀ w' u, Bl w11 w' → (w'.setCell ⟨D8, 2, none⟩ u).cell? ⟨w.heap.size, 2, none⟩ = some (.slice va n.values.length vc)) := fun w' u k => (World.cell?_setCell_other _ _ _ _ (fun e => by injection e with e1; omega)).trans ((cells4 (below_keeps k b311 (lt_of_block b311))).2.2.1)
      have hvtr := HVT.out
      have hvfr := HVF.out
      have hdl11 : D8 < w11.heap.size := lt_of_block b11
      have hdw11 : w.heap.size < w11.heap.size := by omega
      clear x0 x1 x2 x3 f0 f1 f2 f3 FKT FKF FVT FVF FK1 FS1 hktr hkfr k7 g7 kk7 b9 hl6 s9 s11 hdl hdw g9
      go_wp2_with fail
      go_region_held3 (fun w' => w'.cell? ⟨w.heap.size, 2, none⟩ = some (.slice va n.values.length vc)) (first | exact FS2.out _ _ (by ((repeat (first | with_reducible exact Bl.refl _ | with_reducible exact k14 | with_reducible exact k13 | with_reducible exact k12 | with_reducible refine Bl.alloc ?_ _ | with_reducible refine Bl.drew ?_)); done)) | exact FK2.out _ (by ((repeat (first | with_reducible exact Bl.refl _ | with_reducible exact k14 | with_reducible exact k13 | with_reducible exact k12 | with_reducible refine Bl.alloc ?_ _ | with_reducible refine Bl.drew ?_)); done))) ((first | (refine step_append_sl rfl (.tmp 53) (.tmp 58) 22 rfl 9 i9 (.string ⟨#[]⟩) 1 16 Try.underlying22 hi9 hz90 hz91 hz92 rfl (fun j => w11.heap.size ≤ j) _ (r) (tcells (n.values.take r)) rfl (g12.below (by ((repeat (first | with_reducible exact Bl.refl _ | with_reducible refine Bl.alloc ?_ _ | with_reducible refine Bl.drew ?_)); done))) (fun j => own j ∧ j < w.heap.size) _ (n.values.length - (r + 1)) (tcells (n.values.drop (r + 1))) rfl (FVF2.out _ (by ((repeat (first | with_reducible exact Bl.refl _ | with_reducible exact k14 | with_reducible exact k13 | with_reducible exact k12 | with_reducible refine Bl.alloc ?_ _ | with_reducible refine Bl.drew ?_)); done))) (tcells_one _) ?_ ?_ ?_; (have := HKM.out; unfold maxLen; omega); (have := HKM.out; omega); intro v14 w14 hs hc; obtain ⟨a14, cap14, rfl⟩ := hs.shape; (have k14 : Bl w11 w14 := Bl.chg (by ((repeat (first | with_reducible exact Bl.refl _ | with_reducible exact k14 | with_reducible exact k13 | with_reducible exact k12 | with_reducible refine Bl.alloc ?_ _ | with_reducible refine Bl.drew ?_)); done)) hc (fun i hi e => by omega)); (have g14 := hs.mono (own2 := fun j => w11.heap.size ≤ j) (fun j hj e => by rcases e with e | e; exact e; rw [e]; exact bl_size (by ((repeat (first | with_reducible exact Bl.refl _ | with_reducible exact k14 | with_reducible exact k13 | with_reducible exact k12 | with_reducible refine Bl.alloc ?_ _ | with_reducible refine Bl.drew ?_)); done)))); clear hs hc; (have b14 := below_keeps k14 b11 (lt_of_block b11)); obtain ⟨x0, x1, x2, x3, f0, f1, f2, f3⟩ := cells4 b14) | (refine step_append_sl rfl (.tmp 48) (.tmp 52) 22 rfl 9 i9 (.string ⟨#[]⟩) 1 16 Try.underlying22 hi9 hz90 hz91 hz92 rfl (fun _ => False) _ 0 [] rfl (SlAt.nil _ _ _ _ _) (fun j => own j ∧ j < w.heap.size) _ r (tcells (n.values.take r)) rfl (FVT2.out _ (by ((repeat (first | with_reducible exact Bl.refl _ | with_reducible exact k14 | with_reducible exact k13 | with_reducible exact k12 | with_reducible refine Bl.alloc ?_ _ | with_reducible refine Bl.drew ?_)); done))) (tcells_one _) ?_ ?_ ?_; (have := HKM.out; unfold maxLen; omega); (have := HKM.out; omega); intro v12 w12 hs hc; rw [Nat.zero_add, List.nil_append] at hs; obtain ⟨a12, cap12, rfl⟩ := hs.shape; (have k12 : Bl w11 w12 := Bl.chg (by ((repeat (first | with_reducible exact Bl.refl _ | with_reducible exact k14 | with_reducible exact k13 | with_reducible exact k12 | with_reducible refine Bl.alloc ?_ _ | with_reducible refine Bl.drew ?_)); done)) hc (fun i hi e => e)); (have g12 := hs.mono (own2 := fun j => w11.heap.size ≤ j) (fun j hj e => by rcases e with e | e; exact e.elim; rw [e]; exact bl_size (by ((repeat (first | with_reducible exact Bl.refl _ | with_reducible exact k14 | with_reducible exact k13 | with_reducible exact k12 | with_reducible refine Bl.alloc ?_ _ | with_reducible refine Bl.drew ?_)); done)))); (have kk12 := hc.below (Nat.le_refl _) (fun _ _ e => e)); clear hs hc)))
    all_goals
      have hl6 := L6.out
      have n5 : ¬ w.heap.size + 1 = D8 := by omega
      have n6 : ¬ D8 = w.heap.size + 1 := by omega
      have b614 := below_keeps k14 b611 (lt_of_block b611)
      obtain ⟨y0, y1, y2, y3, e0, e1, e2, e3⟩ := cells4 b614
      clear hvtr hvfr k12 g12 kk12
      go_wp2_with fail
      have c15 : Chg (fun j => j = D8) w14 (w14.setCell ⟨D8, 2, none⟩ (.slice a14 (r + (n.values.length - (r + 1))) cap14)) := (Chg.refl _ _).setCell _ _ (fun _ => rfl)
      have hc4 := chg4 (Bl.refl (w14.setCell ⟨D8, 2, none⟩ (.slice a14 (r + (n.values.length - (r + 1))) cap14))) (w.heap.size + 1) (.bool true) (.slice a9 (r + (n.keys.length - (r + 1))) cap9) (.slice a14 (r + (n.values.length - (r + 1))) cap14) (.slice ia2 n.kids.length ic2)
      refine bodyPost_ret (v := .tuple #[.agg #[.bool true, .slice a9 (r + (n.keys.length - (r + 1))) cap9, .slice a14 (r + (n.values.length - (r + 1))) cap14, .slice ia2 n.kids.length ic2], .bool true]) (by simp [results, Try.results29, go_sem, *]) rfl ?_
      have s14 := k14.size
      have hkm := HKM.out
      have hlw := LW6.out
      have e1 : tcells (n.keys.take r ++ n.keys.drop (r + 1)) = tcells (n.keys.take r) ++ tcells (n.keys.drop (r + 1)) := by simp [tcells]
      have e2 : tcells (n.values.take r ++ n.values.drop (r + 1)) = tcells (n.values.take r) ++ tcells (n.values.drop (r + 1)) := by simp [tcells]
      refine ⟨⟨_, r, by rw [HFI.out], HAT.out, ?_⟩, ((K11.trans k14).chg c15 (fun i hi e => by omega)).chg hc4 (fun i hi e => by omega)⟩
      rw [HN.out]
      unfold ND.without
      rw [HF.out]
      refine node_of (by simp; omega) (by simp; omega) rfl ?_ ?_ ?_
      · rw [e1]
        exact ((((hk11.below k14).chg c15 (fun j hj e => by omega)).chg hc4 (fun j hj e => by omega)).mono (fun j _ e => by omega)).rd
      · rw [e2]
        exact (((g14.chg c15 (fun j hj e => by omega)).chg hc4 (fun j hj e => by omega)).mono (fun j _ e => by omega)).rd
      · exact ((((hi11.below k14).chg c15 (fun j hj e => by have := tp.out _ (Or.inr (Or.inr hj)); omega)).chg hc4 (fun j hj e => by have := ap.out.i j hj; omega)).mono (own2 := fun j => w.heap.size ≤ j) (fun j _ e => by have := ap.out.i j e; omega)).rd
  · have hfx : n.finds key r = false := by simpa using hfi
    have HN : Hid ((if n.finds key r = true then n.without r else n) = n) := if_neg hfi
    have HFX := Lib.hid hfx
    rw [hfx]
    clear hfi hfx
    go_wp2_with fail
    refine (rcopy_any w3 _ _ n hA3 sm).mono ?_
    rintro e w4 ⟨⟨u4, rfl, ka2, kc2, va2, vc2, ia2, ic2, rfl, q4⟩, k4⟩
    unfold nodeV
    rw [HF.out]
    have b64 := below_keeps k4 b63 (lt_of_block b63)
    have K4 := K3.trans k4
    clear x0 x1 x2 x3 b33 b63
    obtain ⟨y0, y1, y2, y3, f0, f1, f2, f3⟩ := cells4 b64
    go_wp2_with fail
    have hc4 := chg4 (Bl.refl w4) (w.heap.size + 1) (.bool true) (.slice ka2 n.keys.length kc2) (.slice va2 n.values.length vc2) (.slice ia2 n.kids.length ic2)
    refine bodyPost_ret (v := .tuple #[.agg #[.bool true, .slice ka2 n.keys.length kc2, .slice va2 n.values.length vc2, .slice ia2 n.kids.length ic2], .bool false]) (by simp [results, Try.results29, go_sem, *]) rfl ?_
    refine ⟨⟨_, r, by rw [HFX.out], HAT.out, ?_⟩, K4.chg hc4 (fun i hi e => by omega)⟩
    rw [HN.out]
    refine ⟨ka2, kc2, va2, vc2, ia2, ic2, by unfold nodeV; rw [HF.out], (q4.chg hc4 (fun j hj e => by omega)).mono (fun j _ hj => by omega)⟩
end Go.Proofs.Ytjdkalimaldofaa
