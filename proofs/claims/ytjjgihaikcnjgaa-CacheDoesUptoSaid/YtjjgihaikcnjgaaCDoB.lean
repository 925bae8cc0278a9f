/-
  A call of the laws: the kinds that are two calls in one region.
-/
import Derived.Test.YtjjgihaikcnjgaaCDoA
namespace Go.Proofs.Ytjjgihaikcnjgaa
open Go.RowKit Go.Maps
set_option linter.unusedSimpArgs false
set_option linter.unusedVariables false
set_option maxRecDepth 100000

section
variable {w : World} {col : Nat → Nat} {b0 cb db rb xb k : Nat} {s : CS}
set_option maxHeartbeats 8000000 in
theorem does_unpin (D : Duo w col b0 cb db rb xb s s) (hnm : Norm w col) (G : Doing s k) (hk : k ≤ 262000) (o : OpC) (ho : o.Fine) (hkd : o.kind = 2) :
    Calls Try.prog 28 #[ptr b0, opv o] w fun e w' => DoesTells w col b0 cb db rb xb (s.step o) e w' := by
  obtain ⟨kind, osec, ofill, oshort, oord⟩ := o
  simp only at hkd
  subst hkd
  have hstep : CS.step s ⟨2, osec, ofill, oshort, oord⟩ = (s.unpin osec).2 := by unfold CS.step; simp
  rw [hstep]
  have HG := Lib.hid G
  have HO := Lib.hid ho
  have HP : Hid (s.d.pending.length ≤ 1073690000) := by have := G.pend; show _ ≤ _; omega
  obtain ⟨col1, hO1, D1, F1⟩ := D.boxed hnm ⟨2, osec, ofill, oshort, oord⟩
  have HST : Hid (∀ W col', Free col1 col' (w.alloc (opC ⟨2, osec, ofill, oshort, oord⟩)) W → Stand W b0 cb db rb xb w.heap.size ⟨2, osec, ofill, oshort, oord⟩) := fun W col' k => D1.stand.free D1.color hO1 k
  have st1 := D1.stand
  have HD1 := Lib.hid D1
  have HF1 := Lib.hid F1
  have HN1 := Lib.hid F1.norm
  have hb0 := D1.lt
  obtain ⟨c0, c1, c2, c3, o1, o2, o3, o4⟩ := st1
  clear D hnm G ho hstep D1 F1 hO1
  unfold opv
  unfold opC at *
  unfold ptr at *
  simp only at *
  go_enter Try.func28, Try.ntmps28
  go_wp2_with fail
  generalize w.alloc (.cells #[.int .i64 2, .int .i64 osec, .int .u8 ofill, .int .i64 oshort, .int .u64 oord] 31) = W1 at *
  generalize w.heap.size = O at *
  go_region_held3 (fun W => W.cell? ⟨b0, 2, none⟩ = some (.pointer (some ⟨cb, 0, none⟩)) ∧ W.cell? ⟨b0, 3, none⟩ = some (.pointer (some ⟨rb, 0, none⟩)) ∧ W.cell? ⟨O, 1, none⟩ = some (.int .i64 osec)) (first | exact (fun h => ⟨h.c2, h.c3, h.o1⟩) (HST.out _ _ (F6.trans (Free.below F6.norm (by ((repeat (first | with_reducible exact Bl.refl _ | with_reducible refine Bl.alloc ?_ _ | with_reducible refine Bl.drew ?_)); done))))) | exact (fun h => ⟨h.c2, h.c3, h.o1⟩) (HST.out _ _ (F5.trans (Free.below F5.norm (by ((repeat (first | with_reducible exact Bl.refl _ | with_reducible refine Bl.alloc ?_ _ | with_reducible refine Bl.drew ?_)); done))))) | exact (fun h => ⟨h.c2, h.c3, h.o1⟩) (HST.out _ _ (Free.below HN1.out (by ((repeat (first | with_reducible exact Bl.refl _ | with_reducible refine Bl.alloc ?_ _ | with_reducible refine Bl.drew ?_)); done))))) ((first | (go_at_call 13; refine (unpin_law (HD1.out.below (by ((repeat (first | with_reducible exact Bl.refl _ | with_reducible refine Bl.alloc ?_ _ | with_reducible refine Bl.drew ?_)); done))).cache (by omega) (HN1.out.grow (bl_size (by ((repeat (first | with_reducible exact Bl.refl _ | with_reducible refine Bl.alloc ?_ _ | with_reducible refine Bl.drew ?_)); done)))) HG.out.ok osec HO.out.sector).mono ?_; rintro e w5 ⟨rfl, col5, h5, k5, -⟩; (have F5 : Free col1 col5 W1 w5 := (Free.below HN1.out (by ((repeat (first | with_reducible exact Bl.refl _ | with_reducible refine Bl.alloc ?_ _ | with_reducible refine Bl.drew ?_)); done))).trans (k5.free (by omega))); (have D5 := (HD1.out.below (by ((repeat (first | with_reducible exact Bl.refl _ | with_reducible refine Bl.alloc ?_ _ | with_reducible refine Bl.drew ?_)); done))).stepC k5 h5)) | (go_at_call 57; refine (runpin_law (D5.below (by ((repeat (first | with_reducible exact Bl.refl _ | with_reducible refine Bl.alloc ?_ _ | with_reducible refine Bl.drew ?_)); done))).ref (by omega) (F5.norm.grow (bl_size (by ((repeat (first | with_reducible exact Bl.refl _ | with_reducible refine Bl.alloc ?_ _ | with_reducible refine Bl.drew ?_)); done)))) HG.out.ok osec).mono ?_; rintro e w6 ⟨rfl, col6, h6, k6⟩; (have F6 : Free col1 col6 W1 w6 := (F5.trans (Free.below F5.norm (by ((repeat (first | with_reducible exact Bl.refl _ | with_reducible refine Bl.alloc ?_ _ | with_reducible refine Bl.drew ?_)); done)))).trans (k6.free (by omega))); (have D6 := (D5.below (by ((repeat (first | with_reducible exact Bl.refl _ | with_reducible refine Bl.alloc ?_ _ | with_reducible refine Bl.drew ?_)); done))).stepR k6 h6))))
  all_goals
    have HR6 := Lib.hid F6
    have HD6 := Lib.hid D6
    clear F5 D5 F6 D6 h5 h6 k5 k6
    go_wp2_with fail
    go_ret
    exact ⟨rfl, col6, HF1.out.trans HR6.out, HD6.out⟩
set_option maxHeartbeats 8000000 in
theorem does_upto (D : Duo w col b0 cb db rb xb s s) (hnm : Norm w col) (G : Doing s k) (hk : k ≤ 262000) (o : OpC) (ho : o.Fine) (hkd : o.kind = 4) :
    Calls Try.prog 28 #[ptr b0, opv o] w fun e w' => DoesTells w col b0 cb db rb xb (s.step o) e w' := by
  obtain ⟨kind, osec, ofill, oshort, oord⟩ := o
  simp only at hkd
  subst hkd
  have hstep : CS.step s ⟨4, osec, ofill, oshort, oord⟩ = s.upTo oord := by unfold CS.step; simp
  rw [hstep]
  have HG := Lib.hid G
  have HO := Lib.hid ho
  have HP : Hid (s.d.pending.length ≤ 1073690000) := by have := G.pend; show _ ≤ _; omega
  obtain ⟨col1, hO1, D1, F1⟩ := D.boxed hnm ⟨4, osec, ofill, oshort, oord⟩
  have HST : Hid (∀ W col', Free col1 col' (w.alloc (opC ⟨4, osec, ofill, oshort, oord⟩)) W → Stand W b0 cb db rb xb w.heap.size ⟨4, osec, ofill, oshort, oord⟩) := fun W col' k => D1.stand.free D1.color hO1 k
  have st1 := D1.stand
  have HD1 := Lib.hid D1
  have HF1 := Lib.hid F1
  have HN1 := Lib.hid F1.norm
  have hb0 := D1.lt
  obtain ⟨c0, c1, c2, c3, o1, o2, o3, o4⟩ := st1
  clear D hnm G ho hstep D1 F1 hO1
  unfold opv
  unfold opC at *
  unfold ptr at *
  simp only at *
  go_enter Try.func28, Try.ntmps28
  go_wp2_with fail
  generalize w.alloc (.cells #[.int .i64 4, .int .i64 osec, .int .u8 ofill, .int .i64 oshort, .int .u64 oord] 31) = W1 at *
  generalize w.heap.size = O at *
  go_region_held3 (fun W => W.cell? ⟨b0, 2, none⟩ = some (.pointer (some ⟨cb, 0, none⟩)) ∧ W.cell? ⟨b0, 3, none⟩ = some (.pointer (some ⟨rb, 0, none⟩)) ∧ W.cell? ⟨O, 4, none⟩ = some (.int .u64 oord)) (first | exact (fun h => ⟨h.c2, h.c3, h.o4⟩) (HST.out _ _ (F6.trans (Free.below F6.norm (by ((repeat (first | with_reducible exact Bl.refl _ | with_reducible refine Bl.alloc ?_ _ | with_reducible refine Bl.drew ?_)); done))))) | exact (fun h => ⟨h.c2, h.c3, h.o4⟩) (HST.out _ _ (F5.trans (Free.below F5.norm (by ((repeat (first | with_reducible exact Bl.refl _ | with_reducible refine Bl.alloc ?_ _ | with_reducible refine Bl.drew ?_)); done))))) | exact (fun h => ⟨h.c2, h.c3, h.o4⟩) (HST.out _ _ (Free.below HN1.out (by ((repeat (first | with_reducible exact Bl.refl _ | with_reducible refine Bl.alloc ?_ _ | with_reducible refine Bl.drew ?_)); done))))) ((first | (go_at_call 18; refine (upto_law (HD1.out.below (by ((repeat (first | with_reducible exact Bl.refl _ | with_reducible refine Bl.alloc ?_ _ | with_reducible refine Bl.drew ?_)); done))).cache (by omega) (HN1.out.grow (bl_size (by ((repeat (first | with_reducible exact Bl.refl _ | with_reducible refine Bl.alloc ?_ _ | with_reducible refine Bl.drew ?_)); done)))) HG.out.ok HP.out oord).mono ?_; rintro e w5 ⟨rfl, col5, h5, k5, -⟩; (have F5 : Free col1 col5 W1 w5 := (Free.below HN1.out (by ((repeat (first | with_reducible exact Bl.refl _ | with_reducible refine Bl.alloc ?_ _ | with_reducible refine Bl.drew ?_)); done))).trans (k5.free (by omega))); (have D5 := (HD1.out.below (by ((repeat (first | with_reducible exact Bl.refl _ | with_reducible refine Bl.alloc ?_ _ | with_reducible refine Bl.drew ?_)); done))).stepC k5 h5)) | (go_at_call 59; refine (rupto_law (D5.below (by ((repeat (first | with_reducible exact Bl.refl _ | with_reducible refine Bl.alloc ?_ _ | with_reducible refine Bl.drew ?_)); done))).ref (by omega) (F5.norm.grow (bl_size (by ((repeat (first | with_reducible exact Bl.refl _ | with_reducible refine Bl.alloc ?_ _ | with_reducible refine Bl.drew ?_)); done)))) HG.out.ok HP.out oord).mono ?_; rintro e w6 ⟨rfl, col6, h6, k6⟩; (have F6 : Free col1 col6 W1 w6 := (F5.trans (Free.below F5.norm (by ((repeat (first | with_reducible exact Bl.refl _ | with_reducible refine Bl.alloc ?_ _ | with_reducible refine Bl.drew ?_)); done)))).trans (k6.free (by omega))); (have D6 := (D5.below (by ((repeat (first | with_reducible exact Bl.refl _ | with_reducible refine Bl.alloc ?_ _ | with_reducible refine Bl.drew ?_)); done))).stepR k6 h6))))
  all_goals
    have HR6 := Lib.hid F6
    have HD6 := Lib.hid D6
    clear F5 D5 F6 D6 h5 h6 k5 k6
    go_wp2_with fail
    go_ret
    exact ⟨rfl, col6, HF1.out.trans HR6.out, HD6.out⟩
set_option maxHeartbeats 8000000 in
theorem does_sync (D : Duo w col b0 cb db rb xb s s) (hnm : Norm w col) (G : Doing s k) (hk : k ≤ 262000) (o : OpC) (ho : o.Fine) (hkd : o.kind = 5) :
    Calls Try.prog 28 #[ptr b0, opv o] w fun e w' => DoesTells w col b0 cb db rb xb (s.step o) e w' := by
  obtain ⟨kind, osec, ofill, oshort, oord⟩ := o
  simp only at hkd
  subst hkd
  have hstep : CS.step s ⟨5, osec, ofill, oshort, oord⟩ = s.sync := by unfold CS.step; simp
  rw [hstep]
  have HG := Lib.hid G
  have HO := Lib.hid ho
  have HP : Hid (s.d.pending.length ≤ 1073690000) := by have := G.pend; show _ ≤ _; omega
  obtain ⟨col1, hO1, D1, F1⟩ := D.boxed hnm ⟨5, osec, ofill, oshort, oord⟩
  have HST : Hid (∀ W col', Free col1 col' (w.alloc (opC ⟨5, osec, ofill, oshort, oord⟩)) W → Stand W b0 cb db rb xb w.heap.size ⟨5, osec, ofill, oshort, oord⟩) := fun W col' k => D1.stand.free D1.color hO1 k
  have st1 := D1.stand
  have HD1 := Lib.hid D1
  have HF1 := Lib.hid F1
  have HN1 := Lib.hid F1.norm
  have hb0 := D1.lt
  obtain ⟨c0, c1, c2, c3, o1, o2, o3, o4⟩ := st1
  clear D hnm G ho hstep D1 F1 hO1
  unfold opv
  unfold opC at *
  unfold ptr at *
  simp only at *
  go_enter Try.func28, Try.ntmps28
  go_wp2_with fail
  generalize w.alloc (.cells #[.int .i64 5, .int .i64 osec, .int .u8 ofill, .int .i64 oshort, .int .u64 oord] 31) = W1 at *
  generalize w.heap.size = O at *
  go_region_held3 (fun W => W.cell? ⟨b0, 2, none⟩ = some (.pointer (some ⟨cb, 0, none⟩)) ∧ W.cell? ⟨b0, 3, none⟩ = some (.pointer (some ⟨rb, 0, none⟩))) (first | exact (fun h => ⟨h.c2, h.c3⟩) (HST.out _ _ (F6.trans (Free.below F6.norm (by ((repeat (first | with_reducible exact Bl.refl _ | with_reducible refine Bl.alloc ?_ _ | with_reducible refine Bl.drew ?_)); done))))) | exact (fun h => ⟨h.c2, h.c3⟩) (HST.out _ _ (F5.trans (Free.below F5.norm (by ((repeat (first | with_reducible exact Bl.refl _ | with_reducible refine Bl.alloc ?_ _ | with_reducible refine Bl.drew ?_)); done))))) | exact (fun h => ⟨h.c2, h.c3⟩) (HST.out _ _ (Free.below HN1.out (by ((repeat (first | with_reducible exact Bl.refl _ | with_reducible refine Bl.alloc ?_ _ | with_reducible refine Bl.drew ?_)); done))))) ((first | (go_at_call 19; refine (sync_law (HD1.out.below (by ((repeat (first | with_reducible exact Bl.refl _ | with_reducible refine Bl.alloc ?_ _ | with_reducible refine Bl.drew ?_)); done))).cache (by omega) (HN1.out.grow (bl_size (by ((repeat (first | with_reducible exact Bl.refl _ | with_reducible refine Bl.alloc ?_ _ | with_reducible refine Bl.drew ?_)); done)))) HG.out.ok HP.out).mono ?_; rintro e w5 ⟨rfl, col5, h5, k5, -⟩; (have F5 : Free col1 col5 W1 w5 := (Free.below HN1.out (by ((repeat (first | with_reducible exact Bl.refl _ | with_reducible refine Bl.alloc ?_ _ | with_reducible refine Bl.drew ?_)); done))).trans (k5.free (by omega))); (have D5 := (HD1.out.below (by ((repeat (first | with_reducible exact Bl.refl _ | with_reducible refine Bl.alloc ?_ _ | with_reducible refine Bl.drew ?_)); done))).stepC k5 h5)) | (go_at_call 60; refine (rsync_law (D5.below (by ((repeat (first | with_reducible exact Bl.refl _ | with_reducible refine Bl.alloc ?_ _ | with_reducible refine Bl.drew ?_)); done))).ref (by omega) (F5.norm.grow (bl_size (by ((repeat (first | with_reducible exact Bl.refl _ | with_reducible refine Bl.alloc ?_ _ | with_reducible refine Bl.drew ?_)); done)))) HG.out.ok HP.out).mono ?_; rintro e w6 ⟨rfl, col6, h6, k6⟩; (have F6 : Free col1 col6 W1 w6 := (F5.trans (Free.below F5.norm (by ((repeat (first | with_reducible exact Bl.refl _ | with_reducible refine Bl.alloc ?_ _ | with_reducible refine Bl.drew ?_)); done)))).trans (k6.free (by omega))); (have D6 := (D5.below (by ((repeat (first | with_reducible exact Bl.refl _ | with_reducible refine Bl.alloc ?_ _ | with_reducible refine Bl.drew ?_)); done))).stepR k6 h6))))
  all_goals
    have HR6 := Lib.hid F6
    have HD6 := Lib.hid D6
    clear F5 D5 F6 D6 h5 h6 k5 k6
    go_wp2_with fail
    go_ret
    exact ⟨rfl, col6, HF1.out.trans HR6.out, HD6.out⟩
set_option maxHeartbeats 8000000 in
theorem does_drop (D : Duo w col b0 cb db rb xb s s) (hnm : Norm w col) (G : Doing s k) (hk : k ≤ 262000) (o : OpC) (ho : o.Fine) (hkd : o.kind = 6) :
    Calls Try.prog 28 #[ptr b0, opv o] w fun e w' => DoesTells w col b0 cb db rb xb (s.step o) e w' := by
  obtain ⟨kind, osec, ofill, oshort, oord⟩ := o
  simp only at hkd
  subst hkd
  have hstep : CS.step s ⟨6, osec, ofill, oshort, oord⟩ = s.drop := by unfold CS.step; simp
  rw [hstep]
  have HG := Lib.hid G
  have HO := Lib.hid ho
  have HP : Hid (s.d.pending.length ≤ 1073690000) := by have := G.pend; show _ ≤ _; omega
  obtain ⟨col1, hO1, D1, F1⟩ := D.boxed hnm ⟨6, osec, ofill, oshort, oord⟩
  have HST : Hid (∀ W col', Free col1 col' (w.alloc (opC ⟨6, osec, ofill, oshort, oord⟩)) W → Stand W b0 cb db rb xb w.heap.size ⟨6, osec, ofill, oshort, oord⟩) := fun W col' k => D1.stand.free D1.color hO1 k
  have st1 := D1.stand
  have HD1 := Lib.hid D1
  have HF1 := Lib.hid F1
  have HN1 := Lib.hid F1.norm
  have hb0 := D1.lt
  obtain ⟨c0, c1, c2, c3, o1, o2, o3, o4⟩ := st1
  clear D hnm G ho hstep D1 F1 hO1
  unfold opv
  unfold opC at *
  unfold ptr at *
  simp only at *
  go_enter Try.func28, Try.ntmps28
  go_wp2_with fail
  generalize w.alloc (.cells #[.int .i64 6, .int .i64 osec, .int .u8 ofill, .int .i64 oshort, .int .u64 oord] 31) = W1 at *
  generalize w.heap.size = O at *
  go_region_held3 (fun W => W.cell? ⟨b0, 2, none⟩ = some (.pointer (some ⟨cb, 0, none⟩)) ∧ W.cell? ⟨b0, 3, none⟩ = some (.pointer (some ⟨rb, 0, none⟩))) (first | exact (fun h => ⟨h.c2, h.c3⟩) (HST.out _ _ (F6.trans (Free.below F6.norm (by ((repeat (first | with_reducible exact Bl.refl _ | with_reducible refine Bl.alloc ?_ _ | with_reducible refine Bl.drew ?_)); done))))) | exact (fun h => ⟨h.c2, h.c3⟩) (HST.out _ _ (F5.trans (Free.below F5.norm (by ((repeat (first | with_reducible exact Bl.refl _ | with_reducible refine Bl.alloc ?_ _ | with_reducible refine Bl.drew ?_)); done))))) | exact (fun h => ⟨h.c2, h.c3⟩) (HST.out _ _ (Free.below HN1.out (by ((repeat (first | with_reducible exact Bl.refl _ | with_reducible refine Bl.alloc ?_ _ | with_reducible refine Bl.drew ?_)); done))))) ((first | (go_at_call 16; refine (drop_law (HD1.out.below (by ((repeat (first | with_reducible exact Bl.refl _ | with_reducible refine Bl.alloc ?_ _ | with_reducible refine Bl.drew ?_)); done))).cache (by omega) (HN1.out.grow (bl_size (by ((repeat (first | with_reducible exact Bl.refl _ | with_reducible refine Bl.alloc ?_ _ | with_reducible refine Bl.drew ?_)); done)))) HG.out.ok).mono ?_; rintro e w5 ⟨rfl, col5, h5, k5, -⟩; (have F5 : Free col1 col5 W1 w5 := (Free.below HN1.out (by ((repeat (first | with_reducible exact Bl.refl _ | with_reducible refine Bl.alloc ?_ _ | with_reducible refine Bl.drew ?_)); done))).trans (k5.free (by omega))); (have D5 := (HD1.out.below (by ((repeat (first | with_reducible exact Bl.refl _ | with_reducible refine Bl.alloc ?_ _ | with_reducible refine Bl.drew ?_)); done))).stepC k5 h5)) | (go_at_call 61; refine (rdrop_law (D5.below (by ((repeat (first | with_reducible exact Bl.refl _ | with_reducible refine Bl.alloc ?_ _ | with_reducible refine Bl.drew ?_)); done))).ref (by omega) (F5.norm.grow (bl_size (by ((repeat (first | with_reducible exact Bl.refl _ | with_reducible refine Bl.alloc ?_ _ | with_reducible refine Bl.drew ?_)); done)))) HG.out.ok (fun f hf => (HG.out.pins f hf).1)).mono ?_; rintro e w6 ⟨rfl, col6, h6, k6⟩; (have F6 : Free col1 col6 W1 w6 := (F5.trans (Free.below F5.norm (by ((repeat (first | with_reducible exact Bl.refl _ | with_reducible refine Bl.alloc ?_ _ | with_reducible refine Bl.drew ?_)); done)))).trans (k6.free (by omega))); (have D6 := (D5.below (by ((repeat (first | with_reducible exact Bl.refl _ | with_reducible refine Bl.alloc ?_ _ | with_reducible refine Bl.drew ?_)); done))).stepR k6 h6))))
  all_goals
    have HR6 := Lib.hid F6
    have HD6 := Lib.hid D6
    clear F5 D5 F6 D6 h5 h6 k5 k6
    go_wp2_with fail
    go_ret
    exact ⟨rfl, col6, HF1.out.trans HR6.out, HD6.out⟩
end
end Go.Proofs.Ytjjgihaikcnjgaa
/-
  A call of the laws: Get, Pin, frames, Counts, none of them.
-/
namespace Go.Proofs.Ytjjgihaikcnjgaa
open Go.RowKit Go.Maps
set_option linter.unusedSimpArgs false
set_option linter.unusedVariables false
set_option maxRecDepth 100000

theorem told_len (r : Int × CS) (ok : r.2.Ok) : (told r).length ≤ 4096 := by
  unfold told
  split
  · exact bytes_bound ok
  · simp
section
variable {w : World} {col : Nat → Nat} {b0 cb db rb xb k : Nat} {s : CS}
set_option maxHeartbeats 8000000 in
theorem does_get (D : Duo w col b0 cb db rb xb s s) (hnm : Norm w col) (G : Doing s k) (hk : k ≤ 262000) (o : OpC) (ho : o.Fine) (hkd : o.kind = 0) :
    Calls Try.prog 28 #[ptr b0, opv o] w fun e w' => DoesTells w col b0 cb db rb xb (s.step o) e w' := by
  obtain ⟨kind, osec, ofill, oshort, oord⟩ := o
  simp only at hkd
  subst hkd
  have hstep : CS.step s ⟨0, osec, ofill, oshort, oord⟩ = (s.fetch osec).2 := by unfold CS.step; simp
  rw [hstep]
  have HG := Lib.hid G
  have HO := Lib.hid ho
  have HP : Hid (s.d.pending.length ≤ 1073690000) := by have := G.pend; show _ ≤ _; omega
  obtain ⟨col1, hO1, D1, F1⟩ := D.boxed hnm ⟨0, osec, ofill, oshort, oord⟩
  have HST : Hid (∀ W col', Free col1 col' (w.alloc (opC ⟨0, osec, ofill, oshort, oord⟩)) W → Stand W b0 cb db rb xb w.heap.size ⟨0, osec, ofill, oshort, oord⟩) := fun W col' k => D1.stand.free D1.color hO1 k
  have st1 := D1.stand
  have HD1 := Lib.hid D1
  have HF1 := Lib.hid F1
  have HN1 := Lib.hid F1.norm
  have hb0 := D1.lt
  obtain ⟨c0, c1, c2, c3, o1, o2, o3, o4⟩ := st1
  clear D hnm G ho hstep D1 F1 hO1
  unfold opv
  unfold opC at *
  unfold ptr at *
  simp only at *
  go_enter Try.func28, Try.ntmps28
  go_wp2_with fail
  generalize w.alloc (.cells #[.int .i64 0, .int .i64 osec, .int .u8 ofill, .int .i64 oshort, .int .u64 oord] 31) = W1 at *
  generalize w.heap.size = O at *
  have HLL : Hid ((told (s.fetch osec)).length ≤ 4096) := told_len _ (fetch_keeps HG.out.ok osec).ok
  go_region_held3 (fun W => W.cell? ⟨b0, 2, none⟩ = some (.pointer (some ⟨cb, 0, none⟩)) ∧ W.cell? ⟨O, 1, none⟩ = some (.int .i64 osec)) (first | exact (fun h => ⟨h.c2, h.o1⟩) (HST.out _ _ (F5.trans (Free.below F5.norm (by ((repeat (first | with_reducible exact Bl.refl _ | with_reducible refine Bl.alloc ?_ _ | with_reducible refine Bl.drew ?_)); done))))) | exact (fun h => ⟨h.c2, h.o1⟩) (HST.out _ _ (Free.below HN1.out (by ((repeat (first | with_reducible exact Bl.refl _ | with_reducible refine Bl.alloc ?_ _ | with_reducible refine Bl.drew ?_)); done))))) ((first | (go_at_call 11; refine (get_law' (HD1.out.below (by ((repeat (first | with_reducible exact Bl.refl _ | with_reducible refine Bl.alloc ?_ _ | with_reducible refine Bl.drew ?_)); done))).cache (by omega) (HN1.out.grow (bl_size (by ((repeat (first | with_reducible exact Bl.refl _ | with_reducible refine Bl.alloc ?_ _ | with_reducible refine Bl.drew ?_)); done)))) HG.out.ok HP.out osec HO.out.sector).mono ?_; rintro e w5 ⟨col5, a5, cap5, rfl, h5, k5, hs5⟩; (have F5 : Free col1 col5 W1 w5 := (Free.below HN1.out (by ((repeat (first | with_reducible exact Bl.refl _ | with_reducible refine Bl.alloc ?_ _ | with_reducible refine Bl.drew ?_)); done))).trans (k5.free (by omega))); (have D5 := (HD1.out.below (by ((repeat (first | with_reducible exact Bl.refl _ | with_reducible refine Bl.alloc ?_ _ | with_reducible refine Bl.drew ?_)); done))).stepC k5 h5))))
  obtain ⟨-, -, -, d3, p1, -, -, -⟩ := HST.out _ _ F5
  have HF5 := Lib.hid F5
  have HD5 := Lib.hid D5
  have HS5 := Lib.hid hs5
  clear F5 D5 h5 k5 hs5 c0 c1 c2 c3 o1 o2 o3 o4
  simp only at p1
  go_wp2_with fail
  go_region_held3 (fun W => W.cell? ⟨b0, 3, none⟩ = some (.pointer (some ⟨rb, 0, none⟩)) ∧ W.cell? ⟨O, 1, none⟩ = some (.int .i64 osec)) (first | exact (fun h => ⟨h.c3, h.o1⟩) (HST.out _ _ (F6.trans (Free.below F6.norm (by ((repeat (first | with_reducible exact Bl.refl _ | with_reducible refine Bl.alloc ?_ _ | with_reducible refine Bl.drew ?_)); done))))) | exact (fun h => ⟨h.c3, h.o1⟩) (HST.out _ _ (HF5.out.trans (Free.below HF5.out.norm (by ((repeat (first | with_reducible exact Bl.refl _ | with_reducible refine Bl.alloc ?_ _ | with_reducible refine Bl.drew ?_)); done)))))) ((first | (go_at_call 55; refine (rget_law (HD5.out.below (by ((repeat (first | with_reducible exact Bl.refl _ | with_reducible refine Bl.alloc ?_ _ | with_reducible refine Bl.drew ?_)); done))).ref (by omega) (HF5.out.norm.grow (bl_size (by ((repeat (first | with_reducible exact Bl.refl _ | with_reducible refine Bl.alloc ?_ _ | with_reducible refine Bl.drew ?_)); done)))) HG.out.ok HP.out osec).mono ?_; rintro e w6 ⟨col6, a6, cap6, rfl, h6, k6, hs6⟩; (have F6 : Free col1 col6 W1 w6 := (HF5.out.trans (Free.below HF5.out.norm (by ((repeat (first | with_reducible exact Bl.refl _ | with_reducible refine Bl.alloc ?_ _ | with_reducible refine Bl.drew ?_)); done)))).trans (k6.free (by omega))); (have D6 := (HD5.out.below (by ((repeat (first | with_reducible exact Bl.refl _ | with_reducible refine Bl.alloc ?_ _ | with_reducible refine Bl.drew ?_)); done))).stepR k6 h6); (have S6 := k6.sl (by omega) (SlAt.below HS5.out (by ((repeat (first | with_reducible exact Bl.refl _ | with_reducible refine Bl.alloc ?_ _ | with_reducible refine Bl.drew ?_)); done)))))))
  have HF6 := Lib.hid (HF1.out.trans F6)
  have HD6 := Lib.hid D6
  have HS6 := Lib.hid S6
  have HR6 := Lib.hid hs6
  clear F6 D6 S6 h6 k6 hs6 d3 p1 HS5 HF5 HD5
  have hll := HLL.out
  generalize told (s.fetch osec) = L at *
  go_wp2_with fail
  refine (same_any _ _ _ _ _ _ HS6.out.rd HR6.out).mono ?_
  rintro e w7 ⟨rfl, rfl⟩
  go_wp2_with fail
  clear HR6
  generalize hn : L.length = n at *
  have HBL : Hid ((bcells L).length = n) := by show _ = _; rw [← hn]; simp
  generalize bcells L = X0 at *
  clear hn
  go_loopw [10, 54] (fun _ v wr => ∃ (i : Nat) (XS : List Value), i ≤ n ∧ v = .int .i64 i ∧ Hid (XS.length = n) ∧ Hid (SlAt wr (Nil0 col6) 5 1 (.slice a5 n cap5) n XS) ∧ Hid (Chg (Nil0 col6) w6 wr)) (fun _ i _ => n - (intOf i).toNat)
  case atStart => exact ⟨0, X0, Nat.zero_le _, rfl, HBL.out, HS6.out, Chg.refl _ _⟩
  case round =>
    obtain ⟨i, XS, hi, rfl, hxl, hsl, hch⟩ := hrel
    have j0 : (0 : Int) ≤ (i : Int) := by omega
    have j9 : (i : Int) ≤ 4096 := by omega
    by_cases hin : i < n
    · have j1 : (i : Int) < (n : Int) := by omega
      have hix : i < XS.length := by rw [hxl.out]; exact hin
      obtain ⟨g, off, rfl, hmx, hg, hc⟩ := hsl.out.rd.get (by omega)
      have q0 := hc i _ (List.getElem?_eq_getElem hix)
      obtain ⟨s0, z0, hgo, -⟩ := hsl.out.set (i := i) hix (.int .u8 165)
      have HS0 := Lib.hid s0
      have HGO := Lib.hid hgo
      generalize XS[i] = u at *
      clear hc hmx s0 hgo
      go_wp2_with fail
      go_roundw
      case rel => exact ⟨i + 1, _, by omega, by go_num, by show _ = _; rw [List.length_set]; exact hxl.out, HS0.out, hch.out.setCell _ _ (fun _ => HGO.out)⟩
      case measure => simp [intOf]; omega
    · obtain rfl : i = n := by omega
      go_wp2_with fail
      go_ret
      exact ⟨rfl, col6, HF6.out.trans (Free.own HF6.out.norm hch.out (fun i e => e)), HD6.out.own hch.out (fun i e => e)⟩
set_option maxHeartbeats 8000000 in
theorem does_pin (D : Duo w col b0 cb db rb xb s s) (hnm : Norm w col) (G : Doing s k) (hk : k ≤ 262000) (o : OpC) (ho : o.Fine) (hkd : o.kind = 1) :
    Calls Try.prog 28 #[ptr b0, opv o] w fun e w' => DoesTells w col b0 cb db rb xb (s.step o) e w' := by
  obtain ⟨kind, osec, ofill, oshort, oord⟩ := o
  simp only at hkd
  subst hkd
  have hstep : CS.step s ⟨1, osec, ofill, oshort, oord⟩ = (s.pin osec).2 := by unfold CS.step; simp
  rw [hstep]
  have HG := Lib.hid G
  have HO := Lib.hid ho
  have HP : Hid (s.d.pending.length ≤ 1073690000) := by have := G.pend; show _ ≤ _; omega
  obtain ⟨col1, hO1, D1, F1⟩ := D.boxed hnm ⟨1, osec, ofill, oshort, oord⟩
  have HST : Hid (∀ W col', Free col1 col' (w.alloc (opC ⟨1, osec, ofill, oshort, oord⟩)) W → Stand W b0 cb db rb xb w.heap.size ⟨1, osec, ofill, oshort, oord⟩) := fun W col' k => D1.stand.free D1.color hO1 k
  have st1 := D1.stand
  have HD1 := Lib.hid D1
  have HF1 := Lib.hid F1
  have HN1 := Lib.hid F1.norm
  have hb0 := D1.lt
  obtain ⟨c0, c1, c2, c3, o1, o2, o3, o4⟩ := st1
  clear D hnm G ho hstep D1 F1 hO1
  unfold opv
  unfold opC at *
  unfold ptr at *
  simp only at *
  go_enter Try.func28, Try.ntmps28
  go_wp2_with fail
  generalize w.alloc (.cells #[.int .i64 1, .int .i64 osec, .int .u8 ofill, .int .i64 oshort, .int .u64 oord] 31) = W1 at *
  generalize w.heap.size = O at *
  have HLL : Hid ((told (s.pin osec)).length ≤ 4096) := told_len _ (pin_keeps HG.out.ok osec).ok
  go_region_held3 (fun W => W.cell? ⟨b0, 2, none⟩ = some (.pointer (some ⟨cb, 0, none⟩)) ∧ W.cell? ⟨O, 1, none⟩ = some (.int .i64 osec)) (first | exact (fun h => ⟨h.c2, h.o1⟩) (HST.out _ _ (F5.trans (Free.below F5.norm (by ((repeat (first | with_reducible exact Bl.refl _ | with_reducible refine Bl.alloc ?_ _ | with_reducible refine Bl.drew ?_)); done))))) | exact (fun h => ⟨h.c2, h.o1⟩) (HST.out _ _ (Free.below HN1.out (by ((repeat (first | with_reducible exact Bl.refl _ | with_reducible refine Bl.alloc ?_ _ | with_reducible refine Bl.drew ?_)); done))))) ((first | (go_at_call 12; refine (pin_law' (HD1.out.below (by ((repeat (first | with_reducible exact Bl.refl _ | with_reducible refine Bl.alloc ?_ _ | with_reducible refine Bl.drew ?_)); done))).cache (by omega) (HN1.out.grow (bl_size (by ((repeat (first | with_reducible exact Bl.refl _ | with_reducible refine Bl.alloc ?_ _ | with_reducible refine Bl.drew ?_)); done)))) HG.out.ok HP.out osec HO.out.sector).mono ?_; rintro e w5 ⟨col5, a5, cap5, rfl, h5, k5, hs5⟩; (have F5 : Free col1 col5 W1 w5 := (Free.below HN1.out (by ((repeat (first | with_reducible exact Bl.refl _ | with_reducible refine Bl.alloc ?_ _ | with_reducible refine Bl.drew ?_)); done))).trans (k5.free (by omega))); (have D5 := (HD1.out.below (by ((repeat (first | with_reducible exact Bl.refl _ | with_reducible refine Bl.alloc ?_ _ | with_reducible refine Bl.drew ?_)); done))).stepC k5 h5))))
  obtain ⟨-, -, -, d3, p1, -, -, -⟩ := HST.out _ _ F5
  have HF5 := Lib.hid F5
  have HD5 := Lib.hid D5
  have HS5 := Lib.hid hs5
  clear F5 D5 h5 k5 hs5 c0 c1 c2 c3 o1 o2 o3 o4
  simp only at p1
  go_wp2_with fail
  go_region_held3 (fun W => W.cell? ⟨b0, 3, none⟩ = some (.pointer (some ⟨rb, 0, none⟩)) ∧ W.cell? ⟨O, 1, none⟩ = some (.int .i64 osec)) (first | exact (fun h => ⟨h.c3, h.o1⟩) (HST.out _ _ (F6.trans (Free.below F6.norm (by ((repeat (first | with_reducible exact Bl.refl _ | with_reducible refine Bl.alloc ?_ _ | with_reducible refine Bl.drew ?_)); done))))) | exact (fun h => ⟨h.c3, h.o1⟩) (HST.out _ _ (HF5.out.trans (Free.below HF5.out.norm (by ((repeat (first | with_reducible exact Bl.refl _ | with_reducible refine Bl.alloc ?_ _ | with_reducible refine Bl.drew ?_)); done)))))) ((first | (go_at_call 56; refine (rpin_law (HD5.out.below (by ((repeat (first | with_reducible exact Bl.refl _ | with_reducible refine Bl.alloc ?_ _ | with_reducible refine Bl.drew ?_)); done))).ref (by omega) (HF5.out.norm.grow (bl_size (by ((repeat (first | with_reducible exact Bl.refl _ | with_reducible refine Bl.alloc ?_ _ | with_reducible refine Bl.drew ?_)); done)))) HG.out.ok HP.out osec).mono ?_; rintro e w6 ⟨col6, a6, cap6, rfl, h6, k6, hs6⟩; (have F6 : Free col1 col6 W1 w6 := (HF5.out.trans (Free.below HF5.out.norm (by ((repeat (first | with_reducible exact Bl.refl _ | with_reducible refine Bl.alloc ?_ _ | with_reducible refine Bl.drew ?_)); done)))).trans (k6.free (by omega))); (have D6 := (HD5.out.below (by ((repeat (first | with_reducible exact Bl.refl _ | with_reducible refine Bl.alloc ?_ _ | with_reducible refine Bl.drew ?_)); done))).stepR k6 h6); (have S6 := k6.sl (by omega) (SlAt.below HS5.out (by ((repeat (first | with_reducible exact Bl.refl _ | with_reducible refine Bl.alloc ?_ _ | with_reducible refine Bl.drew ?_)); done)))))))
  have HF6 := Lib.hid (HF1.out.trans F6)
  have HD6 := Lib.hid D6
  have HS6 := Lib.hid S6
  have HR6 := Lib.hid hs6
  clear F6 D6 S6 h6 k6 hs6 d3 p1 HS5 HF5 HD5
  have hll := HLL.out
  generalize told (s.pin osec) = L at *
  go_wp2_with fail
  refine (same_any _ _ _ _ _ _ HS6.out.rd HR6.out).mono ?_
  rintro e w7 ⟨rfl, rfl⟩
  go_wp2_with fail
  go_ret
  exact ⟨rfl, col6, HF6.out, HD6.out⟩
set_option maxHeartbeats 8000000 in
theorem does_frames (D : Duo w col b0 cb db rb xb s s) (hnm : Norm w col) (G : Doing s k) (hk : k ≤ 262000) (o : OpC) (ho : o.Fine) (hkd : o.kind = 7) :
    Calls Try.prog 28 #[ptr b0, opv o] w fun e w' => DoesTells w col b0 cb db rb xb (s.step o) e w' := by
  obtain ⟨kind, osec, ofill, oshort, oord⟩ := o
  simp only at hkd
  subst hkd
  have hstep : CS.step s ⟨7, osec, ofill, oshort, oord⟩ = s := by unfold CS.step; simp
  rw [hstep]
  have HG := Lib.hid G
  have HO := Lib.hid ho
  have HP : Hid (s.d.pending.length ≤ 1073690000) := by have := G.pend; show _ ≤ _; omega
  obtain ⟨col1, hO1, D1, F1⟩ := D.boxed hnm ⟨7, osec, ofill, oshort, oord⟩
  have HST : Hid (∀ W col', Free col1 col' (w.alloc (opC ⟨7, osec, ofill, oshort, oord⟩)) W → Stand W b0 cb db rb xb w.heap.size ⟨7, osec, ofill, oshort, oord⟩) := fun W col' k => D1.stand.free D1.color hO1 k
  have st1 := D1.stand
  have HD1 := Lib.hid D1
  have HF1 := Lib.hid F1
  have HN1 := Lib.hid F1.norm
  have hb0 := D1.lt
  obtain ⟨c0, c1, c2, c3, o1, o2, o3, o4⟩ := st1
  clear D hnm G ho hstep D1 F1 hO1
  unfold opv
  unfold opC at *
  unfold ptr at *
  simp only at *
  go_enter Try.func28, Try.ntmps28
  go_wp2_with fail
  generalize w.alloc (.cells #[.int .i64 7, .int .i64 osec, .int .u8 ofill, .int .i64 oshort, .int .u64 oord] 31) = W1 at *
  generalize w.heap.size = O at *
  refine (bframes_any HD1.out HN1.out HG.out.ok).mono ?_
  rintro e w5 ⟨rfl, k5, h5⟩
  have HF5 := Lib.hid (HF1.out.trans k5)
  have HD5 := Lib.hid h5
  clear k5 h5
  go_wp2_with fail
  go_ret
  exact ⟨rfl, col1, HF5.out, HD5.out⟩
set_option maxHeartbeats 8000000 in
theorem does_counts (D : Duo w col b0 cb db rb xb s s) (hnm : Norm w col) (G : Doing s k) (hk : k ≤ 262000) (o : OpC) (ho : o.Fine) (hkd : o.kind = 8) :
    Calls Try.prog 28 #[ptr b0, opv o] w fun e w' => DoesTells w col b0 cb db rb xb (s.step o) e w' := by
  obtain ⟨kind, osec, ofill, oshort, oord⟩ := o
  simp only at hkd
  subst hkd
  have hstep : CS.step s ⟨8, osec, ofill, oshort, oord⟩ = s := by unfold CS.step; simp
  rw [hstep]
  have HG := Lib.hid G
  have HO := Lib.hid ho
  have HP : Hid (s.d.pending.length ≤ 1073690000) := by have := G.pend; show _ ≤ _; omega
  obtain ⟨col1, hO1, D1, F1⟩ := D.boxed hnm ⟨8, osec, ofill, oshort, oord⟩
  have HST : Hid (∀ W col', Free col1 col' (w.alloc (opC ⟨8, osec, ofill, oshort, oord⟩)) W → Stand W b0 cb db rb xb w.heap.size ⟨8, osec, ofill, oshort, oord⟩) := fun W col' k => D1.stand.free D1.color hO1 k
  have st1 := D1.stand
  have HD1 := Lib.hid D1
  have HF1 := Lib.hid F1
  have HN1 := Lib.hid F1.norm
  have hb0 := D1.lt
  obtain ⟨c0, c1, c2, c3, o1, o2, o3, o4⟩ := st1
  clear D hnm G ho hstep D1 F1 hO1
  unfold opv
  unfold opC at *
  unfold ptr at *
  simp only at *
  go_enter Try.func28, Try.ntmps28
  go_wp2_with fail
  generalize w.alloc (.cells #[.int .i64 8, .int .i64 osec, .int .u8 ofill, .int .i64 oshort, .int .u64 oord] 31) = W1 at *
  generalize w.heap.size = O at *
  obtain ⟨⟨r, m, ns, hC⟩, ⟨fv, fs, hR⟩, -, -⟩ := HD1.out
  obtain ⟨-, -, -, r3, r4, r5, r6⟩ := cells_r hR.block
  have hrb := hR.lt
  have HCB := Lib.hid hC.block
  have KR : Hid (∀ W, Bl W1 W → (W.cell? ⟨rb, 3, none⟩ = some (.int .i64 s.hits) ∧ W.cell? ⟨rb, 4, none⟩ = some (.int .i64 s.misses) ∧ W.cell? ⟨rb, 5, none⟩ = some (.int .i64 s.writes) ∧ W.cell? ⟨rb, 6, none⟩ = some (.int .i64 s.gone))) := fun W k => ⟨(k.cell (p := ⟨rb, 3, none⟩) hrb).trans r3, (k.cell (p := ⟨rb, 4, none⟩) hrb).trans r4, (k.cell (p := ⟨rb, 5, none⟩) hrb).trans r5, (k.cell (p := ⟨rb, 6, none⟩) hrb).trans r6⟩
  clear hC hR
  go_region_held3 (fun W => W.cell? ⟨b0, 2, none⟩ = some (.pointer (some ⟨cb, 0, none⟩)) ∧ W.cell? ⟨b0, 3, none⟩ = some (.pointer (some ⟨rb, 0, none⟩)) ∧ W.cell? ⟨rb, 3, none⟩ = some (.int .i64 s.hits) ∧ W.cell? ⟨rb, 4, none⟩ = some (.int .i64 s.misses) ∧ W.cell? ⟨rb, 5, none⟩ = some (.int .i64 s.writes) ∧ W.cell? ⟨rb, 6, none⟩ = some (.int .i64 s.gone)) (first | exact (fun h h' => ⟨h.c2, h.c3, h'.1, h'.2.1, h'.2.2.1, h'.2.2.2⟩) (HST.out _ _ (Free.below HN1.out (by ((repeat (first | with_reducible exact Bl.refl _ | with_reducible exact k5 | with_reducible refine Bl.alloc ?_ _ | with_reducible refine Bl.drew ?_)); done)))) (KR.out _ (by ((repeat (first | with_reducible exact Bl.refl _ | with_reducible exact k5 | with_reducible refine Bl.alloc ?_ _ | with_reducible refine Bl.drew ?_)); done)))) ((first | (go_at_call 25; refine (counts_any (below_keeps (by ((repeat (first | with_reducible exact Bl.refl _ | with_reducible exact k5 | with_reducible refine Bl.alloc ?_ _ | with_reducible refine Bl.drew ?_)); done)) HCB.out (lt_of_block HCB.out))).mono ?_; rintro e w5 ⟨rfl, k5r⟩; (have k5 : Bl W1 w5 := Bl.trans (by ((repeat (first | with_reducible exact Bl.refl _ | with_reducible exact k5 | with_reducible refine Bl.alloc ?_ _ | with_reducible refine Bl.drew ?_)); done)) k5r))))
  all_goals
    go_wp2_with fail
    go_ret
    exact ⟨rfl, col1, HF1.out.trans (Free.below HN1.out (by ((repeat (first | with_reducible exact Bl.refl _ | with_reducible exact k5 | with_reducible refine Bl.alloc ?_ _ | with_reducible refine Bl.drew ?_)); done))), HD1.out.below (by ((repeat (first | with_reducible exact Bl.refl _ | with_reducible exact k5 | with_reducible refine Bl.alloc ?_ _ | with_reducible refine Bl.drew ?_)); done))⟩
theorem step_none {s : CS} {o : OpC} (h : ∀ i : Int, 0 ≤ i → i ≤ 6 → o.kind ≠ i) : s.step o = s := by
  unfold CS.step
  rw [if_neg (h 0 (by omega) (by omega)), if_neg (h 1 (by omega) (by omega)), if_neg (h 2 (by omega) (by omega)), if_neg (h 3 (by omega) (by omega)), if_neg (h 4 (by omega) (by omega)), if_neg (h 5 (by omega) (by omega)), if_neg (h 6 (by omega) (by omega))]
set_option maxHeartbeats 8000000 in
theorem does_none (D : Duo w col b0 cb db rb xb s s) (hnm : Norm w col) (o : OpC) (h : ∀ i : Int, 0 ≤ i → i ≤ 8 → o.kind ≠ i) :
    Calls Try.prog 28 #[ptr b0, opv o] w fun e w' => DoesTells w col b0 cb db rb xb (s.step o) e w' := by
  rw [step_none (fun i h0 h1 => h i h0 (by omega))]
  obtain ⟨kind, osec, ofill, oshort, oord⟩ := o
  simp only at h
  obtain ⟨col1, hO1, D1, F1⟩ := D.boxed hnm ⟨kind, osec, ofill, oshort, oord⟩
  have HD1 := Lib.hid D1
  have HF1 := Lib.hid F1
  have n0 : (kind == 0) = false := by simpa using h 0 (by omega) (by omega)
  have n1 : (kind == 1) = false := by simpa using h 1 (by omega) (by omega)
  have n2 : (kind == 2) = false := by simpa using h 2 (by omega) (by omega)
  have n3 : (kind == 3) = false := by simpa using h 3 (by omega) (by omega)
  have n4 : (kind == 4) = false := by simpa using h 4 (by omega) (by omega)
  have n5 : (kind == 5) = false := by simpa using h 5 (by omega) (by omega)
  have n6 : (kind == 6) = false := by simpa using h 6 (by omega) (by omega)
  have n7 : (kind == 7) = false := by simpa using h 7 (by omega) (by omega)
  have n8 : (kind == 8) = false := by simpa using h 8 (by omega) (by omega)
  clear D hnm h hO1 D1 F1
  unfold opv
  unfold opC at *
  unfold ptr at *
  simp only at *
  go_enter Try.func28, Try.ntmps28
  go_wp2_with fail
  go_ret
  exact ⟨rfl, col1, HF1.out, HD1.out⟩
end
end Go.Proofs.Ytjjgihaikcnjgaa
