/-
  check: the program's.
-/
import Derived.Test.YthmimbmlcihkaaaGreatNShaped
namespace Go.Proofs.YthmimbmlcihkaaaGreat
open Go.RowKit
set_option linter.unusedSimpArgs false
set_option linter.unusedVariables false
set_option maxRecDepth 100000

noncomputable def ND.pcheck (n : ND) (b : Bool) : Int :=
  if n.lens = true then (if n.shaped b = true ∧ n.kids.all kidOk = true ∧ ups n.keys = true then 0 else 90) else 91
set_option maxHeartbeats 4000000 in
theorem pcheck_any (w : World) (own : Nat → Prop) (v : Value) (n : ND) (b : Bool) (hv : NodeAt w own v n) (hs : n.Small) (ln : n.Lens) :
    Calls Tryz.prog 79 #[v, .bool b] w fun e w' => e = .returned (.int .i64 (n.pcheck b)) ∧ Bl w w' := by
  have hv' := hv
  obtain ⟨ka, kc, va, vc, ia, ic, rfl, h⟩ := hv
  have kB : Bl w (w.alloc (.cells (nbox n ka kc va vc ia ic) 61)) := (Bl.refl w).alloc _
  have b1 : (w.alloc (.cells (nbox n ka kc va vc ia ic) 61)).heap[w.heap.size]? = some (.cells (nbox n ka kc va vc ia ic) 61 (0, 0)) := block_new _ _
  have hsz : w.heap.size < (w.alloc (.cells (nbox n ka kc va vc ia ic) 61)).heap.size := by simp
  have hA := h.below kB
  have hN := hv'.bl kB
  obtain ⟨_, _, _, hmax⟩ := RdAt.shape h.keys
  unfold maxLen at hmax
  have LB := Lib.hid ln.big
  unfold nodeV
  unfold nodeV at hv' hN
  unfold nbox at kB b1 hsz hA hN
  have HC : Hid (n.pcheck b = if n.lens = true then (if n.shaped b = true ∧ n.kids.all kidOk = true ∧ ups n.keys = true then 0 else 90) else 91) := rfl
  cases a1 : n.keys.all keyOk with
  | false =>
    have HF : Hid (n.pcheck b = 91) := by show _ = _; rw [HC.out]; simp [ND.lens, a1]
    clear HC
    have A1 := Lib.hid a1
    clear a1
    go_enter Tryz.func79, Tryz.ntmps79
    go_wp2_with (first | (go_at_call 110; refine (contains1_any _ own _ n.keys hA.keys LB.out.1).mono ?_; rw [A1.out]; rintro e w3 ⟨rfl, k3⟩; (have kk3 := k3); (have br3 := below_keeps k3 b1 hsz); (have s3 := Nat.lt_of_lt_of_le hsz k3.size); (have x30 := (cell_of_block br3 0).trans rfl); (have x31 := (cell_of_block br3 1).trans rfl); (have x32 := (cell_of_block br3 2).trans rfl); (have x33 := (cell_of_block br3 3).trans rfl)))
    go_ret
    exact ⟨by rw [HF.out]; rfl, kB.trans kk3⟩
  | true =>
    cases a2 : n.values.all valOk with
    | false =>
      have HF : Hid (n.pcheck b = 91) := by show _ = _; rw [HC.out]; simp [ND.lens, a1, a2]
      clear HC
      have A1 := Lib.hid a1
      clear a1
      have A2 := Lib.hid a2
      clear a2
      go_enter Tryz.func79, Tryz.ntmps79
      go_wp2_with (first | (go_at_call 110; refine (contains2_any _ own _ n.values (hA.below kk3).values LB.out.2).mono ?_; rw [A2.out]; rintro e w4 ⟨rfl, k4⟩; (have kk4 := (kk3.trans k4)); (have br4 := below_keeps k4 br3 s3); (have s4 := Nat.lt_of_lt_of_le s3 k4.size); (have x40 := (cell_of_block br4 0).trans rfl); (have x41 := (cell_of_block br4 1).trans rfl); (have x42 := (cell_of_block br4 2).trans rfl); (have x43 := (cell_of_block br4 3).trans rfl)) | (go_at_call 110; refine (contains1_any _ own _ n.keys hA.keys LB.out.1).mono ?_; rw [A1.out]; rintro e w3 ⟨rfl, k3⟩; (have kk3 := k3); (have br3 := below_keeps k3 b1 hsz); (have s3 := Nat.lt_of_lt_of_le hsz k3.size); (have x30 := (cell_of_block br3 0).trans rfl); (have x31 := (cell_of_block br3 1).trans rfl); (have x32 := (cell_of_block br3 2).trans rfl); (have x33 := (cell_of_block br3 3).trans rfl)))
      go_ret
      exact ⟨by rw [HF.out]; rfl, kB.trans kk4⟩
    | true =>
      cases a3 : n.shaped b with
      | false =>
        have HF : Hid (n.pcheck b = 90) := by show _ = _; rw [HC.out]; simp [ND.lens, a1, a2, a3]
        clear HC
        have A1 := Lib.hid a1
        clear a1
        have A2 := Lib.hid a2
        clear a2
        have A3 := Lib.hid a3
        clear a3
        go_enter Tryz.func79, Tryz.ntmps79
        go_wp2_with (first | (go_at_call 111; refine (shaped_any _ own _ n b (hN.bl kk4) hs).mono ?_; rw [A3.out]; rintro e w5 ⟨rfl, k5⟩; (have kk5 := (kk4.trans k5)); (have br5 := below_keeps k5 br4 s4); (have s5 := Nat.lt_of_lt_of_le s4 k5.size); (have x50 := (cell_of_block br5 0).trans rfl); (have x51 := (cell_of_block br5 1).trans rfl); (have x52 := (cell_of_block br5 2).trans rfl); (have x53 := (cell_of_block br5 3).trans rfl)) | (go_at_call 110; refine (contains2_any _ own _ n.values (hA.below kk3).values LB.out.2).mono ?_; rw [A2.out]; rintro e w4 ⟨rfl, k4⟩; (have kk4 := (kk3.trans k4)); (have br4 := below_keeps k4 br3 s3); (have s4 := Nat.lt_of_lt_of_le s3 k4.size); (have x40 := (cell_of_block br4 0).trans rfl); (have x41 := (cell_of_block br4 1).trans rfl); (have x42 := (cell_of_block br4 2).trans rfl); (have x43 := (cell_of_block br4 3).trans rfl)) | (go_at_call 110; refine (contains1_any _ own _ n.keys hA.keys LB.out.1).mono ?_; rw [A1.out]; rintro e w3 ⟨rfl, k3⟩; (have kk3 := k3); (have br3 := below_keeps k3 b1 hsz); (have s3 := Nat.lt_of_lt_of_le hsz k3.size); (have x30 := (cell_of_block br3 0).trans rfl); (have x31 := (cell_of_block br3 1).trans rfl); (have x32 := (cell_of_block br3 2).trans rfl); (have x33 := (cell_of_block br3 3).trans rfl)))
        go_ret
        exact ⟨by rw [HF.out]; rfl, kB.trans kk5⟩
      | true =>
        cases a4 : n.kids.all kidOk with
        | false =>
          have HF : Hid (n.pcheck b = 90) := by show _ = _; rw [HC.out]; simp [ND.lens, a1, a2, a3, a4]
          clear HC
          have A1 := Lib.hid a1
          clear a1
          have A2 := Lib.hid a2
          clear a2
          have A3 := Lib.hid a3
          clear a3
          have A4 := Lib.hid a4
          clear a4
          go_enter Tryz.func79, Tryz.ntmps79
          go_wp2_with (first | (go_at_call 34; refine (contains3_any _ own _ n.kids (hA.below kk5).kids).mono ?_; rw [A4.out]; rintro e w6 ⟨rfl, k6⟩; (have kk6 := (kk5.trans k6)); (have br6 := below_keeps k6 br5 s5); (have s6 := Nat.lt_of_lt_of_le s5 k6.size); (have x60 := (cell_of_block br6 0).trans rfl); (have x61 := (cell_of_block br6 1).trans rfl); (have x62 := (cell_of_block br6 2).trans rfl); (have x63 := (cell_of_block br6 3).trans rfl)) | (go_at_call 111; refine (shaped_any _ own _ n b (hN.bl kk4) hs).mono ?_; rw [A3.out]; rintro e w5 ⟨rfl, k5⟩; (have kk5 := (kk4.trans k5)); (have br5 := below_keeps k5 br4 s4); (have s5 := Nat.lt_of_lt_of_le s4 k5.size); (have x50 := (cell_of_block br5 0).trans rfl); (have x51 := (cell_of_block br5 1).trans rfl); (have x52 := (cell_of_block br5 2).trans rfl); (have x53 := (cell_of_block br5 3).trans rfl)) | (go_at_call 110; refine (contains2_any _ own _ n.values (hA.below kk3).values LB.out.2).mono ?_; rw [A2.out]; rintro e w4 ⟨rfl, k4⟩; (have kk4 := (kk3.trans k4)); (have br4 := below_keeps k4 br3 s3); (have s4 := Nat.lt_of_lt_of_le s3 k4.size); (have x40 := (cell_of_block br4 0).trans rfl); (have x41 := (cell_of_block br4 1).trans rfl); (have x42 := (cell_of_block br4 2).trans rfl); (have x43 := (cell_of_block br4 3).trans rfl)) | (go_at_call 110; refine (contains1_any _ own _ n.keys hA.keys LB.out.1).mono ?_; rw [A1.out]; rintro e w3 ⟨rfl, k3⟩; (have kk3 := k3); (have br3 := below_keeps k3 b1 hsz); (have s3 := Nat.lt_of_lt_of_le hsz k3.size); (have x30 := (cell_of_block br3 0).trans rfl); (have x31 := (cell_of_block br3 1).trans rfl); (have x32 := (cell_of_block br3 2).trans rfl); (have x33 := (cell_of_block br3 3).trans rfl)))
          go_ret
          exact ⟨by rw [HF.out]; rfl, kB.trans kk6⟩
        | true =>
          cases a5 : ups n.keys with
          | false =>
            have HF : Hid (n.pcheck b = 90) := by show _ = _; rw [HC.out]; simp [ND.lens, a1, a2, a3, a4, a5]
            clear HC
            have A1 := Lib.hid a1
            clear a1
            have A2 := Lib.hid a2
            clear a2
            have A3 := Lib.hid a3
            clear a3
            have A4 := Lib.hid a4
            clear a4
            have A5 := Lib.hid a5
            clear a5
            go_enter Tryz.func79, Tryz.ntmps79
            go_wp2_with (first | (go_at_call 112; refine (rises_any _ own _ n.keys (hA.below kk6).keys).mono ?_; rw [A5.out]; rintro e w7 ⟨rfl, k7⟩; (have kk7 := (kk6.trans k7)); (have br7 := below_keeps k7 br6 s6); (have s7 := Nat.lt_of_lt_of_le s6 k7.size); (have x70 := (cell_of_block br7 0).trans rfl); (have x71 := (cell_of_block br7 1).trans rfl); (have x72 := (cell_of_block br7 2).trans rfl); (have x73 := (cell_of_block br7 3).trans rfl)) | (go_at_call 34; refine (contains3_any _ own _ n.kids (hA.below kk5).kids).mono ?_; rw [A4.out]; rintro e w6 ⟨rfl, k6⟩; (have kk6 := (kk5.trans k6)); (have br6 := below_keeps k6 br5 s5); (have s6 := Nat.lt_of_lt_of_le s5 k6.size); (have x60 := (cell_of_block br6 0).trans rfl); (have x61 := (cell_of_block br6 1).trans rfl); (have x62 := (cell_of_block br6 2).trans rfl); (have x63 := (cell_of_block br6 3).trans rfl)) | (go_at_call 111; refine (shaped_any _ own _ n b (hN.bl kk4) hs).mono ?_; rw [A3.out]; rintro e w5 ⟨rfl, k5⟩; (have kk5 := (kk4.trans k5)); (have br5 := below_keeps k5 br4 s4); (have s5 := Nat.lt_of_lt_of_le s4 k5.size); (have x50 := (cell_of_block br5 0).trans rfl); (have x51 := (cell_of_block br5 1).trans rfl); (have x52 := (cell_of_block br5 2).trans rfl); (have x53 := (cell_of_block br5 3).trans rfl)) | (go_at_call 110; refine (contains2_any _ own _ n.values (hA.below kk3).values LB.out.2).mono ?_; rw [A2.out]; rintro e w4 ⟨rfl, k4⟩; (have kk4 := (kk3.trans k4)); (have br4 := below_keeps k4 br3 s3); (have s4 := Nat.lt_of_lt_of_le s3 k4.size); (have x40 := (cell_of_block br4 0).trans rfl); (have x41 := (cell_of_block br4 1).trans rfl); (have x42 := (cell_of_block br4 2).trans rfl); (have x43 := (cell_of_block br4 3).trans rfl)) | (go_at_call 110; refine (contains1_any _ own _ n.keys hA.keys LB.out.1).mono ?_; rw [A1.out]; rintro e w3 ⟨rfl, k3⟩; (have kk3 := k3); (have br3 := below_keeps k3 b1 hsz); (have s3 := Nat.lt_of_lt_of_le hsz k3.size); (have x30 := (cell_of_block br3 0).trans rfl); (have x31 := (cell_of_block br3 1).trans rfl); (have x32 := (cell_of_block br3 2).trans rfl); (have x33 := (cell_of_block br3 3).trans rfl)))
            go_ret
            exact ⟨by rw [HF.out]; rfl, kB.trans kk7⟩
          | true =>
            have HF : Hid (n.pcheck b = 0) := by show _ = _; rw [HC.out]; simp [ND.lens, a1, a2, a3, a4, a5]
            clear HC
            have A1 := Lib.hid a1
            clear a1
            have A2 := Lib.hid a2
            clear a2
            have A3 := Lib.hid a3
            clear a3
            have A4 := Lib.hid a4
            clear a4
            have A5 := Lib.hid a5
            clear a5
            go_enter Tryz.func79, Tryz.ntmps79
            go_wp2_with (first | (go_at_call 112; refine (rises_any _ own _ n.keys (hA.below kk6).keys).mono ?_; rw [A5.out]; rintro e w7 ⟨rfl, k7⟩; (have kk7 := (kk6.trans k7)); (have br7 := below_keeps k7 br6 s6); (have s7 := Nat.lt_of_lt_of_le s6 k7.size); (have x70 := (cell_of_block br7 0).trans rfl); (have x71 := (cell_of_block br7 1).trans rfl); (have x72 := (cell_of_block br7 2).trans rfl); (have x73 := (cell_of_block br7 3).trans rfl)) | (go_at_call 34; refine (contains3_any _ own _ n.kids (hA.below kk5).kids).mono ?_; rw [A4.out]; rintro e w6 ⟨rfl, k6⟩; (have kk6 := (kk5.trans k6)); (have br6 := below_keeps k6 br5 s5); (have s6 := Nat.lt_of_lt_of_le s5 k6.size); (have x60 := (cell_of_block br6 0).trans rfl); (have x61 := (cell_of_block br6 1).trans rfl); (have x62 := (cell_of_block br6 2).trans rfl); (have x63 := (cell_of_block br6 3).trans rfl)) | (go_at_call 111; refine (shaped_any _ own _ n b (hN.bl kk4) hs).mono ?_; rw [A3.out]; rintro e w5 ⟨rfl, k5⟩; (have kk5 := (kk4.trans k5)); (have br5 := below_keeps k5 br4 s4); (have s5 := Nat.lt_of_lt_of_le s4 k5.size); (have x50 := (cell_of_block br5 0).trans rfl); (have x51 := (cell_of_block br5 1).trans rfl); (have x52 := (cell_of_block br5 2).trans rfl); (have x53 := (cell_of_block br5 3).trans rfl)) | (go_at_call 110; refine (contains2_any _ own _ n.values (hA.below kk3).values LB.out.2).mono ?_; rw [A2.out]; rintro e w4 ⟨rfl, k4⟩; (have kk4 := (kk3.trans k4)); (have br4 := below_keeps k4 br3 s3); (have s4 := Nat.lt_of_lt_of_le s3 k4.size); (have x40 := (cell_of_block br4 0).trans rfl); (have x41 := (cell_of_block br4 1).trans rfl); (have x42 := (cell_of_block br4 2).trans rfl); (have x43 := (cell_of_block br4 3).trans rfl)) | (go_at_call 110; refine (contains1_any _ own _ n.keys hA.keys LB.out.1).mono ?_; rw [A1.out]; rintro e w3 ⟨rfl, k3⟩; (have kk3 := k3); (have br3 := below_keeps k3 b1 hsz); (have s3 := Nat.lt_of_lt_of_le hsz k3.size); (have x30 := (cell_of_block br3 0).trans rfl); (have x31 := (cell_of_block br3 1).trans rfl); (have x32 := (cell_of_block br3 2).trans rfl); (have x33 := (cell_of_block br3 3).trans rfl)))
            go_ret
            exact ⟨by rw [HF.out]; rfl, kB.trans kk7⟩
end Go.Proofs.YthmimbmlcihkaaaGreat
