/-
  node's read: the walk.
-/
import Derived.Test.YtjdkalimaldofaaNRd3
import Derived.Test.YtjdkalimaldofaaLast
import Derived.Test.YtjdkalimaldofaaNCopied
namespace Go.Proofs.Ytjdkalimaldofaa
open Go.RowKit
set_option linter.unusedSimpArgs false
set_option linter.unusedVariables false
def rsLeaf (s : ByteArray) (e : Int) (k : Nat) : RSt := RSt.run RSt.leafStep k ⟨[], [], [], ⟨s, e⟩⟩
/-- what read holds in memory -/
structure RdAtSt (w : World) (M B rb : Nat) (lf : Bool) (t : RSt) (K V I : Nat → Prop) (ka : Option Addr) (kc : Nat) (va : Option Addr) (vc : Nat) (ia : Option Addr) (ic : Nat) : Prop where
  box : w.heap[B]? = some (.cells #[.bool lf, .slice ka t.keys.length kc, .slice va t.values.length vc, .slice ia t.kids.length ic] 25 (0, 0))
  sl : NodeSl w K V I ⟨lf, t.keys, t.values, t.kids⟩ ka kc va vc ia ic
  rdr : Rdr w rb t.r.s t.r.e
  ap : Apart3 M K V I
  top : ∀ j, K j ∨ V j ∨ I j → j < w.heap.size
theorem read_fin {w wr w' : World} {D rb : Nat} {lf : Bool} {t : RSt} {K V I : Nat → Prop} {ka : Option Addr} {kc : Nat} {va : Option Addr} {vc : Nat} {ia : Option Addr} {ic : Nat}
    (hD : D = w.heap.size) (hrb : rb < w.heap.size) (h : RdAtSt wr (D + 2) (D + 1) rb lf t K V I ka kc va vc ia ic) (hc : Chg (fun j => j = rb ∨ D ≤ j) w wr) (h4 : Chg (fun i => i = D) wr w') :
    (∃ v, Ending.returned (.agg #[.bool lf, .slice ka t.keys.length kc, .slice va t.values.length vc, .slice ia t.kids.length ic]) = .returned v ∧ NodeAt w' (fun j => w.heap.size ≤ j) v ⟨lf, t.keys, t.values, t.kids⟩ ∧ Rdr w' rb t.r.s t.r.e) ∧ Chg (fun j => j = rb) w w' := by
  have ap := h.ap
  have g1 := sl_fin h.sl.keys (Bl.refl wr) h4 (fun j hj e => by have := ap.k j hj; omega)
  have g2 := sl_fin h.sl.values (Bl.refl wr) h4 (fun j hj e => by have := ap.v j hj; omega)
  have g3 := sl_fin h.sl.kids (Bl.refl wr) h4 (fun j hj e => by have := ap.i j hj; omega)
  refine ⟨⟨_, rfl, ⟨ka, kc, va, vc, ia, ic, rfl, ⟨(g1.mono (fun j _ hj => ?_)).rd, (g2.mono (fun j _ hj => ?_)).rd, (g3.mono (fun j _ hj => ?_)).rd⟩⟩, h.rdr.chg h4 (fun e => by omega)⟩, ?_⟩
  · have := ap.k j hj; show w.heap.size ≤ j; omega
  · have := ap.v j hj; show w.heap.size ≤ j; omega
  · have := ap.i j hj; show w.heap.size ≤ j; omega
  · exact (hc.trans (h4.mono (fun j _ e => Or.inr (by omega)))).mono (fun j hj e => by omega)
set_option maxRecDepth 100000 in
set_option maxHeartbeats 4000000 in
theorem read_leaf (w : World) (rb : Nat) (s : ByteArray) (e : Int) (n : Nat) (h : Rdr w rb s e) (hs : s.size ≤ 8192) (hn : n ≤ 65535) :
    Calls Try.prog 57 #[.pointer (some ⟨rb, 0, none⟩), .int .u8 1, .int .i64 n] w fun x w' => (∃ v, x = .returned v ∧ NodeAt w' (fun j => w.heap.size ≤ j) v ⟨true, (rsLeaf s e n).keys, (rsLeaf s e n).values, (rsLeaf s e n).kids⟩ ∧ Rdr w' rb (rsLeaf s e n).r.s (rsLeaf s e n).r.e) ∧ Chg (fun j => j = rb) w w' := by
  obtain ⟨T, hT⟩ : ∃ T, T = rsLeaf s e n := ⟨_, rfl⟩
  rw [← hT]
  have HT := Lib.hid hT
  have HN := Lib.hid hn
  obtain ⟨i9, hi9, hz90, hz91, hz92⟩ := info_parts info9
  clear hT
  go_enter Try.func57, Try.ntmps57
  go_wp2_with fail
  have kW : Bl w ((w.alloc (.cells #[.bool false, .slice none 0 0, .slice none 0 0, .slice none 0 0] 25)).alloc (.cells #[.bool true, .slice none 0 0, .slice none 0 0, .slice none 0 0] 25)) := ((Bl.refl w).alloc _).alloc _
  have b0 : ((w.alloc (.cells #[.bool false, .slice none 0 0, .slice none 0 0, .slice none 0 0] 25)).alloc (.cells #[.bool true, .slice none 0 0, .slice none 0 0, .slice none 0 0] 25)).heap[w.heap.size]? = some (.cells #[.bool false, .slice none 0 0, .slice none 0 0, .slice none 0 0] 25 (0, 0)) := block_old _ (block_new _ _)
  have bB : ((w.alloc (.cells #[.bool false, .slice none 0 0, .slice none 0 0, .slice none 0 0] 25)).alloc (.cells #[.bool true, .slice none 0 0, .slice none 0 0, .slice none 0 0] 25)).heap[w.heap.size + 1]? = some (.cells #[.bool true, .slice none 0 0, .slice none 0 0, .slice none 0 0] 25 (0, 0)) := block_new' _ (by simp)
  have hrb : rb < w.heap.size := lt_of_block h
  have h1 := h.bl kW
  generalize (w.alloc (.cells #[.bool false, .slice none 0 0, .slice none 0 0, .slice none 0 0] 25)).alloc (.cells #[.bool true, .slice none 0 0, .slice none 0 0, .slice none 0 0] 25) = W1 at *
  obtain ⟨D, hD⟩ : ∃ D, D = w.heap.size := ⟨_, rfl⟩
  have HD := Lib.hid hD
  have HRB := Lib.hid hrb
  rw [← hD] at b0 bB ⊢
  have cW : Chg (fun j => j = rb ∨ D ≤ j) w W1 := Chg.of_below kW
  clear kW hrb hD
  go_loopw [8, 9, 25] (fun _ _ i wr => ∃ (k : Nat) (ka : Option Addr) (kc : Nat) (va : Option Addr) (vc : Nat) (ia : Option Addr) (ic : Nat) (K V I : Nat → Prop), k ≤ n ∧ i = .int .i64 k ∧ RdAtSt wr (D + 2) (D + 1) rb true (rsLeaf s e k) K V I ka kc va vc ia ic ∧ wr.heap[D]? = some (.cells #[.bool false, .slice none 0 0, .slice none 0 0, .slice none 0 0] 25 (0, 0)) ∧ Chg (fun j => j = rb ∨ D ≤ j) w wr) (fun _ _ i _ => n - (intOf i).toNat)
  case atStart => exact ⟨0, none, 0, none, 0, none, 0, (fun _ => False), (fun _ => False), (fun _ => False), Nat.zero_le _, rfl, ⟨bB, ⟨SlAt.nil _ _ _ _ _, SlAt.nil _ _ _ _ _, SlAt.nil _ _ _ _ _⟩, h1, ⟨fun _ h => h.elim, fun _ h => h.elim, fun _ h => h.elim, fun _ h => h.elim, fun _ h => h.elim, fun _ h => h.elim⟩, fun _ h => by rcases h with h | h | h <;> exact h.elim⟩, b0, cW⟩
  case round =>
    obtain ⟨k, ka, kc, va, vc, ia, ic, K, V, I, hk, rfl, hst, b0r, hcr⟩ := hrel
    clear b0 bB h1 cW
    have i0 : (0 : Int) ≤ (k : Int) := by omega
    obtain ⟨x0, x1, x2, x3, -⟩ := cells4 hst.box
    obtain ⟨y0, y1, y2, y3, f0, f1, f2, f3⟩ := cells4 b0r
    have hrun := RSt.leaf_run ⟨[], [], [], ⟨s, e⟩⟩ k
    by_cases hlt : k < n
    · have i1 : (k : Int) < (n : Int) := by omega
      go_wp2_with fail
      refine (err_any _ rb _ _ hst.rdr).mono ?_
      rintro x w2 ⟨rfl, hw2⟩
      rw [hw2]
      clear hw2 w2
      by_cases he : (rsLeaf s e k).r.e = 0
      · have hstep : Hid (rsLeaf s e (k + 1) = (rsLeaf s e k).leafStep) := RSt.run_step he
        have hsz : (rsLeaf s e k).r.s.size ≤ 8192 := Nat.le_trans hrun.1 hs
        have hkl : (rsLeaf s e k).keys.length ≤ k := Nat.le_trans hrun.2.1 (by simp)
        have hvl : (rsLeaf s e k).values.length ≤ k := Nat.le_trans hrun.2.2.1 (by simp)
        clear hrun
        generalize rsLeaf s e k = t at *
        have HKL := Lib.hid (And.intro hkl hvl)
        clear hkl hvl
        have heb : (t.r.e != 0) = false := by simp [he]
        obtain ⟨kn, hkn⟩ := Int.eq_ofNat_of_zero_le (RS.num_in1 t.r).1
        obtain ⟨vn, hvn⟩ := Int.eq_ofNat_of_zero_le (RS.num_in1 (t.r.raw 1)).1
        have hkn' : rdNum t.r.s t.r.e 1 = (kn : Int) := hkn
        have hvn' : rdNum (rawS t.r.s t.r.e 1) (rawE t.r.s t.r.e 1) 1 = (vn : Int) := hvn
        have HKV := Lib.hid (And.intro hkn hvn)
        have hk0 : (0 : Int) ≤ (kn : Int) := by omega
        have hk1 : (kn : Int) ≤ 255 := by have := (RS.num_in1 t.r).2; omega
        have hv0 : (0 : Int) ≤ (vn : Int) := by omega
        have hv1 : (vn : Int) ≤ 255 := by have := (RS.num_in1 (t.r.raw 1)).2; omega
        clear hkn hvn he
        have nK : ∀ j, K j → ¬ j = rb := fun j hj e => by have h1 := hst.ap.k j hj; have h2 := HD.out; have h3 := HRB.out; omega
        have nrb : ¬ D + 1 = rb := by have h1 := HD.out; have h2 := HRB.out; omega
        go_wp2_with fail
        refine (rdu8_any _ rb _ _ hst.rdr hsz).mono ?_
        rw [hkn']
        rintro x w3 ⟨rfl, r3, c3⟩
        have b3 := c3.keeps hst.box nrb
        have hsz3 := Nat.le_trans (rawS_le t.r.s t.r.e 1) hsz
        clear x0 x1 x2 x3 y0 y1 y2 y3 f0 f1 f2 f3 heb
        obtain ⟨x0, x1, x2, x3, -⟩ := cells4 b3
        go_wp2_with fail
        refine (rdu8_any _ rb _ _ r3 hsz3).mono ?_
        rw [hvn']
        rintro x w4 ⟨rfl, r4, c4⟩
        have b4 := c4.keeps b3 nrb
        have hsz4 := Nat.le_trans (rawS_le _ (rawE t.r.s t.r.e 1) 1) hsz3
        clear x0 x1 x2 x3
        obtain ⟨x0, x1, x2, x3, f0, f1, f2, f3⟩ := cells4 b4
        go_wp2_with fail
        refine M_region (S := fun w' => w'.cell? ⟨D + 1, 1, none⟩ = some (.slice ka t.keys.length kc)) (z := 8) (by kernel_rfl) ?_
        have hS0 : (fun w' : World => w'.cell? ⟨D + 1, 1, none⟩ = some (.slice ka t.keys.length kc)) w4.drew := (cells4 (below_keeps (Bl.drew (Bl.refl w4)) b4 (lt_of_block b4))).2.1
        refine M_take (i := 0) (by decide) (by kernel_rfl) (by kernel_rfl) (by kernel_rfl) (by kernel_rfl) (fun _ _ _ h => h) hS0 (by rfl) (v := ?_) ?_ ?_
        rotate_left
        · intro w' hSw
          have hs1 : w'.cell? ⟨D + 1, 1, none⟩ = some (.slice ka t.keys.length kc) := hSw
          go_simp
          try with_reducible rfl
        try simp only [Act.put, List.getElem_toArray, List.getElem_cons_succ, List.getElem_cons_zero, List.setIfInBounds_toArray, List.set_cons_zero, List.set_cons_succ]
        refine M_take (i := 1) (by decide) (by kernel_rfl) (by kernel_rfl) (by kernel_rfl) (by kernel_rfl) (fun _ _ _ h => h) hS0 (by rfl) (v := ?_) ?_ ?_
        rotate_left
        · intro w' hSw
          have hs1 : w'.cell? ⟨D + 1, 1, none⟩ = some (.slice ka t.keys.length kc) := hSw
          go_simp
          try with_reducible rfl
        try simp only [Act.put, List.getElem_toArray, List.getElem_cons_succ, List.getElem_cons_zero, List.setIfInBounds_toArray, List.set_cons_zero, List.set_cons_succ]
        refine M_take (i := 2) (by decide) (by kernel_rfl) (by kernel_rfl) (by kernel_rfl) (by kernel_rfl) (fun _ _ _ h => h) hS0 (by rfl) (v := ?_) ?_ ?_
        rotate_left
        · intro w' hSw
          have hs1 : w'.cell? ⟨D + 1, 1, none⟩ = some (.slice ka t.keys.length kc) := hSw
          go_simp
          try with_reducible rfl
        try simp only [Act.put, List.getElem_toArray, List.getElem_cons_succ, List.getElem_cons_zero, List.setIfInBounds_toArray, List.set_cons_zero, List.set_cons_succ]
        refine M_take (i := 3) (by decide) (by kernel_rfl) (by kernel_rfl) (by kernel_rfl) (by kernel_rfl) (fun _ _ _ h => h) hS0 (by rfl) (v := ?_) ?_ ?_
        rotate_left
        · intro w' hSw
          have hs1 : w'.cell? ⟨D + 1, 1, none⟩ = some (.slice ka t.keys.length kc) := hSw
          go_simp
          try with_reducible rfl
        try simp only [Act.put, List.getElem_toArray, List.getElem_cons_succ, List.getElem_cons_zero, List.setIfInBounds_toArray, List.set_cons_zero, List.set_cons_succ]
        refine M_one (i := 4) (by decide) (by kernel_rfl) (fun K' hK => ?_)
        try simp only [List.getElem_toArray, List.getElem_cons_succ, List.getElem_cons_zero]
        go_simp
        refine (rdraw_any _ rb _ _ kn (r4.bl (Bl.drew (Bl.refl w4))) hsz4).mono ?_
        rintro x w5 ⟨rfl, r5, c5⟩
        have b5 := c5.keeps (below_keeps (Bl.drew (Bl.refl w4)) b4 (lt_of_block b4)) nrb
        try dsimp only
        refine hK.out _ _ (Or.inr (cells4 b5).2.1) ?_
        clear hK K'
        try simp only [Act.put, List.getElem_toArray, List.getElem_cons_succ, List.getElem_cons_zero, List.setIfInBounds_toArray, List.set_cons_zero, List.set_cons_succ]
        refine M_one (i := 5) (by decide) (by kernel_rfl) (fun K' hK => ?_)
        try simp only [List.getElem_toArray, List.getElem_cons_succ, List.getElem_cons_zero]
        go_simp
        refine hK.out _ _ (Or.inr (cells4 (below_keeps ((Bl.refl w5).alloc _) b5 (lt_of_block b5))).2.1) ?_
        clear hK K'
        try simp only [Act.put, List.getElem_toArray, List.getElem_cons_succ, List.getElem_cons_zero, List.setIfInBounds_toArray, List.set_cons_zero, List.set_cons_succ]
        refine M_one (i := 6) (by decide) (by kernel_rfl) (fun K' hK => ?_)
        refine step_append_sl rfl (.tmp 39) (.tmp 43) 22 rfl 9 i9 (.string ⟨#[]⟩) 1 16 Try.underlying22 hi9 hz90 hz91 hz92 rfl K _ t.keys.length (tcells t.keys) rfl ?_ (fun j => j = w5.heap.size) _ 1 (tcells [rawT (rawS (rawS t.r.s t.r.e 1) (rawE t.r.s t.r.e 1) 1) (rawE (rawS t.r.s t.r.e 1) (rawE t.r.s t.r.e 1) 1) kn]) rfl ?_ (tcells_one _) ?_ ?_ ?_
        · exact (((hst.sl.keys.chg c3 nK).chg c4 nK).below (Bl.drew (Bl.refl w4)) |>.chg c5 nK).below ((Bl.refl w5).alloc _)
        · exact rd_newG rfl rfl (by unfold maxLen; omega)
        · have := HKL.out; have := HN.out; unfold maxLen; omega
        · have := HKL.out; have := HN.out; omega
        intro v6 w6 hs6 hc6
        obtain ⟨a6, cap6, rfl⟩ := hs6.shape
        have hq6 : Chg K w5 w6 := ((Chg.refl _ _).alloc _).trans hc6
        have b6 := hq6.keeps b5 (fun e => by have := hst.ap.k _ e; omega)
        refine hK.out _ _ (Or.inr (cells4 b6).2.1) ?_
        clear hK K'
        try simp only [Act.put, List.getElem_toArray, List.getElem_cons_succ, List.getElem_cons_zero, List.setIfInBounds_toArray, List.set_cons_zero, List.set_cons_succ]
        refine M_one (i := 7) (by decide) (by kernel_rfl) (fun K' hK => ?_)
        try simp only [List.getElem_toArray, List.getElem_cons_succ, List.getElem_cons_zero]
        go_simp
        refine hK.out _ _ (Or.inr (cells4 b6).2.1) ?_
        clear hK K'
        try simp only [Act.put, List.getElem_toArray, List.getElem_cons_succ, List.getElem_cons_zero, List.setIfInBounds_toArray, List.set_cons_zero, List.set_cons_succ]
        obtain ⟨x0, x1, x2, x3, f0, f1, f2, f3⟩ := cells4 b6
        refine M_one (i := 8) (by decide) (by kernel_rfl) (fun K' hK => ?_)
        try simp only [List.getElem_toArray, List.getElem_cons_succ, List.getElem_cons_zero]
        go_simp
        refine hK.out _ _ (Or.inl rfl) ?_
        clear hK K'
        try simp only [Act.put, List.getElem_toArray, List.getElem_cons_succ, List.getElem_cons_zero, List.setIfInBounds_toArray, List.set_cons_zero, List.set_cons_succ]
        refine M_done (by kernel_rfl) ?_ _
        have b7 : (w6.setCell ⟨D + 1, 1, none⟩ (.slice a6 (t.keys.length + 1) cap6)).heap[D + 1]? = some (.cells #[.bool true, .slice a6 (t.keys.length + 1) cap6, .slice va t.values.length vc, .slice ia t.kids.length ic] 25 (0, 0)) := by rw [block_set b6]; rfl
        have c7 : Chg (fun j => j = D + 1) w6 (w6.setCell ⟨D + 1, 1, none⟩ (.slice a6 (t.keys.length + 1) cap6)) := (Chg.refl _ _).setCell _ _ (fun _ => rfl)
        have r7 := (r5.chg hq6 (fun e => by have h1 := hst.ap.k _ e; have h2 := HD.out; have h3 := HRB.out; omega)).chg c7 (fun e => nrb e.symm)
        generalize w6.setCell ⟨D + 1, 1, none⟩ (.slice a6 (t.keys.length + 1) cap6) = w7 at *
        clear x0 x1 x2 x3 f0 f1 f2 f3 hS0
        obtain ⟨x0, x1, x2, x3, f0, f1, f2, f3⟩ := cells4 b7
        go_wp2_with fail
        have hsz7 := Nat.le_trans (rawS_le _ (rawE (rawS t.r.s t.r.e 1) (rawE t.r.s t.r.e 1) 1) kn) hsz4
        have nV : ∀ j, V j → ¬ j = rb := fun j hj e => by have h1 := hst.ap.v j hj; have h2 := HD.out; have h3 := HRB.out; omega
        have hv7 := ((((hst.sl.values.chg c3 nV).chg c4 nV).below (Bl.drew (Bl.refl w4)) |>.chg c5 nV).chg hq6 (fun j hj e => hst.ap.kv j e hj)).chg c7 (fun j hj e => by have h1 := hst.ap.v j hj; omega)
        refine M_region (S := fun w' => w'.cell? ⟨D + 1, 2, none⟩ = some (.slice va t.values.length vc)) (z := 8) (by kernel_rfl) ?_
        have hS0 : (fun w' : World => w'.cell? ⟨D + 1, 2, none⟩ = some (.slice va t.values.length vc)) w7.drew := (cells4 (below_keeps (Bl.drew (Bl.refl w7)) b7 (lt_of_block b7))).2.2.1
        refine M_take (i := 0) (by decide) (by kernel_rfl) (by kernel_rfl) (by kernel_rfl) (by kernel_rfl) (fun _ _ _ h => h) hS0 (by rfl) (v := ?_) ?_ ?_
        rotate_left
        · intro w' hSw
          have hs1 : w'.cell? ⟨D + 1, 2, none⟩ = some (.slice va t.values.length vc) := hSw
          go_simp
          try with_reducible rfl
        try simp only [Act.put, List.getElem_toArray, List.getElem_cons_succ, List.getElem_cons_zero, List.setIfInBounds_toArray, List.set_cons_zero, List.set_cons_succ]
        refine M_take (i := 1) (by decide) (by kernel_rfl) (by kernel_rfl) (by kernel_rfl) (by kernel_rfl) (fun _ _ _ h => h) hS0 (by rfl) (v := ?_) ?_ ?_
        rotate_left
        · intro w' hSw
          have hs1 : w'.cell? ⟨D + 1, 2, none⟩ = some (.slice va t.values.length vc) := hSw
          go_simp
          try with_reducible rfl
        try simp only [Act.put, List.getElem_toArray, List.getElem_cons_succ, List.getElem_cons_zero, List.setIfInBounds_toArray, List.set_cons_zero, List.set_cons_succ]
        refine M_take (i := 2) (by decide) (by kernel_rfl) (by kernel_rfl) (by kernel_rfl) (by kernel_rfl) (fun _ _ _ h => h) hS0 (by rfl) (v := ?_) ?_ ?_
        rotate_left
        · intro w' hSw
          have hs1 : w'.cell? ⟨D + 1, 2, none⟩ = some (.slice va t.values.length vc) := hSw
          go_simp
          try with_reducible rfl
        try simp only [Act.put, List.getElem_toArray, List.getElem_cons_succ, List.getElem_cons_zero, List.setIfInBounds_toArray, List.set_cons_zero, List.set_cons_succ]
        refine M_take (i := 3) (by decide) (by kernel_rfl) (by kernel_rfl) (by kernel_rfl) (by kernel_rfl) (fun _ _ _ h => h) hS0 (by rfl) (v := ?_) ?_ ?_
        rotate_left
        · intro w' hSw
          have hs1 : w'.cell? ⟨D + 1, 2, none⟩ = some (.slice va t.values.length vc) := hSw
          go_simp
          try with_reducible rfl
        try simp only [Act.put, List.getElem_toArray, List.getElem_cons_succ, List.getElem_cons_zero, List.setIfInBounds_toArray, List.set_cons_zero, List.set_cons_succ]
        refine M_one (i := 4) (by decide) (by kernel_rfl) (fun K' hK => ?_)
        try simp only [List.getElem_toArray, List.getElem_cons_succ, List.getElem_cons_zero]
        go_simp
        refine (rdraw_any _ rb _ _ vn (r7.bl (Bl.drew (Bl.refl w7))) hsz7).mono ?_
        rintro x w8 ⟨rfl, r8, c8⟩
        have b8 := c8.keeps (below_keeps (Bl.drew (Bl.refl w7)) b7 (lt_of_block b7)) nrb
        try dsimp only
        refine hK.out _ _ (Or.inr (cells4 b8).2.2.1) ?_
        clear hK K'
        try simp only [Act.put, List.getElem_toArray, List.getElem_cons_succ, List.getElem_cons_zero, List.setIfInBounds_toArray, List.set_cons_zero, List.set_cons_succ]
        refine M_one (i := 5) (by decide) (by kernel_rfl) (fun K' hK => ?_)
        try simp only [List.getElem_toArray, List.getElem_cons_succ, List.getElem_cons_zero]
        go_simp
        refine hK.out _ _ (Or.inr (cells4 (below_keeps ((Bl.refl w8).alloc _) b8 (lt_of_block b8))).2.2.1) ?_
        clear hK K'
        try simp only [Act.put, List.getElem_toArray, List.getElem_cons_succ, List.getElem_cons_zero, List.setIfInBounds_toArray, List.set_cons_zero, List.set_cons_succ]
        refine M_one (i := 6) (by decide) (by kernel_rfl) (fun K' hK => ?_)
        refine step_append_sl rfl (.tmp 49) (.tmp 53) 22 rfl 9 i9 (.string ⟨#[]⟩) 1 16 Try.underlying22 hi9 hz90 hz91 hz92 rfl V _ t.values.length (tcells t.values) rfl ?_ (fun j => j = w8.heap.size) _ 1 (tcells [rawT (rawS (rawS (rawS t.r.s t.r.e 1) (rawE t.r.s t.r.e 1) 1) (rawE (rawS t.r.s t.r.e 1) (rawE t.r.s t.r.e 1) 1) kn) (rawE (rawS (rawS t.r.s t.r.e 1) (rawE t.r.s t.r.e 1) 1) (rawE (rawS t.r.s t.r.e 1) (rawE t.r.s t.r.e 1) 1) kn) vn]) rfl ?_ (tcells_one _) ?_ ?_ ?_
        · exact ((hv7.below (Bl.drew (Bl.refl w7))).chg c8 nV).below ((Bl.refl w8).alloc _)
        · exact rd_newG rfl rfl (by unfold maxLen; omega)
        · have := HKL.out; have := HN.out; unfold maxLen; omega
        · have := HKL.out; have := HN.out; omega
        intro v9 w9 hs9 hc9
        obtain ⟨a9, cap9, rfl⟩ := hs9.shape
        have hq9 : Chg V w8 w9 := ((Chg.refl _ _).alloc _).trans hc9
        have b9 := hq9.keeps b8 (fun e => by have := hst.ap.v _ e; omega)
        refine hK.out _ _ (Or.inr (cells4 b9).2.2.1) ?_
        clear hK K'
        try simp only [Act.put, List.getElem_toArray, List.getElem_cons_succ, List.getElem_cons_zero, List.setIfInBounds_toArray, List.set_cons_zero, List.set_cons_succ]
        refine M_one (i := 7) (by decide) (by kernel_rfl) (fun K' hK => ?_)
        try simp only [List.getElem_toArray, List.getElem_cons_succ, List.getElem_cons_zero]
        go_simp
        refine hK.out _ _ (Or.inr (cells4 b9).2.2.1) ?_
        clear hK K'
        try simp only [Act.put, List.getElem_toArray, List.getElem_cons_succ, List.getElem_cons_zero, List.setIfInBounds_toArray, List.set_cons_zero, List.set_cons_succ]
        obtain ⟨x0, x1, x2, x3, f0, f1, f2, f3⟩ := cells4 b9
        refine M_one (i := 8) (by decide) (by kernel_rfl) (fun K' hK => ?_)
        try simp only [List.getElem_toArray, List.getElem_cons_succ, List.getElem_cons_zero]
        go_simp
        refine hK.out _ _ (Or.inl rfl) ?_
        clear hK K'
        try simp only [Act.put, List.getElem_toArray, List.getElem_cons_succ, List.getElem_cons_zero, List.setIfInBounds_toArray, List.set_cons_zero, List.set_cons_succ]
        refine M_done (by kernel_rfl) ?_ _
        have b10 : (w9.setCell ⟨D + 1, 2, none⟩ (.slice a9 (t.values.length + 1) cap9)).heap[D + 1]? = some (.cells #[.bool true, .slice a6 (t.keys.length + 1) cap6, .slice a9 (t.values.length + 1) cap9, .slice ia t.kids.length ic] 25 (0, 0)) := by rw [block_set b9]; rfl
        have c10 : Chg (fun j => j = D + 1) w9 (w9.setCell ⟨D + 1, 2, none⟩ (.slice a9 (t.values.length + 1) cap9)) := (Chg.refl _ _).setCell _ _ (fun _ => rfl)
        have r10 := (r8.chg hq9 (fun e => by have h1 := hst.ap.v _ e; have h2 := HD.out; have h3 := HRB.out; omega)).chg c10 (fun e => nrb e.symm)
        generalize w9.setCell ⟨D + 1, 2, none⟩ (.slice a9 (t.values.length + 1) cap9) = w10 at *
        go_wp2_with fail
        go_roundw
        case rel =>
          have z5 : ∀ o, (w5.alloc o).heap.size = w5.heap.size + 1 := fun o => by simp
          have z8 : ∀ o, (w8.alloc o).heap.size = w8.heap.size + 1 := fun o => by simp
          have cA : Chg (fun j => j = rb) wr w5 := ((c3.trans c4).drew).trans c5
          have cB := c8.undrew
          have s1 := cA.size
          have s2 := hc6.size
          have s3 := c7.size
          have s4 := cB.size
          have s5 := hc9.size
          have s6 := c10.size
          rw [z5] at s2
          rw [z8] at s5
          have hDw := HD.out
          have hrbw := HRB.out
          have sB := lt_of_block hst.box
          have ap := hst.ap
          have tp := hst.top
          have hs6' := hs6.mono (own2 := fun j => (K j ∨ j = w5.heap.size + 1) ∧ j < w6.heap.size) (fun j hj e => ⟨e.imp id (fun q => by rw [q, z5]), hj⟩)
          have hs9' := hs9.mono (own2 := fun j => (V j ∨ j = w8.heap.size + 1) ∧ j < w9.heap.size) (fun j hj e => ⟨e.imp id (fun q => by rw [q, z8]), hj⟩)
          have mK : ∀ j, ((K j ∨ j = w5.heap.size + 1) ∧ j < w6.heap.size) → D + 2 ≤ j := fun j hj => by
            rcases hj.1 with e | e
            · exact ap.k j e
            · omega
          have mV : ∀ j, ((V j ∨ j = w8.heap.size + 1) ∧ j < w9.heap.size) → D + 2 ≤ j := fun j hj => by
            rcases hj.1 with e | e
            · exact ap.v j e
            · omega
          have nKV : ∀ j, ((K j ∨ j = w5.heap.size + 1) ∧ j < w6.heap.size) → ¬ V j := fun j hj hv => by
            rcases hj.1 with e | e
            · exact ap.kv j e hv
            · have := tp j (Or.inr (Or.inl hv)); omega
          have nI : ∀ j, I j → D + 2 ≤ j := ap.i
          have gK := (((hs6'.chg c7 (fun j hj e => by have := mK j hj; omega)).chg cB (fun j hj e => by have := mK j hj; omega)).chg hq9 nKV).chg c10 (fun j hj e => by have := mK j hj; omega)
          have gV := hs9'.chg c10 (fun j hj e => by have := mV j hj; omega)
          have gI := ((((hst.sl.kids.chg cA (fun j hj e => by have := nI j hj; omega)).chg hq6 (fun j hj e => ap.ki j e hj)).chg c7 (fun j hj e => by have := nI j hj; omega)).chg cB (fun j hj e => by have := nI j hj; omega)).chg hq9 (fun j hj e => ap.vi j e hj) |>.chg c10 (fun j hj e => by have := nI j hj; omega)
          have eS : t.leafStep = ⟨t.keys ++ [rawT (rawS (rawS t.r.s t.r.e 1) (rawE t.r.s t.r.e 1) 1) (rawE (rawS t.r.s t.r.e 1) (rawE t.r.s t.r.e 1) 1) kn], t.values ++ [rawT (rawS (rawS (rawS t.r.s t.r.e 1) (rawE t.r.s t.r.e 1) 1) (rawE (rawS t.r.s t.r.e 1) (rawE t.r.s t.r.e 1) 1) kn) (rawE (rawS (rawS t.r.s t.r.e 1) (rawE t.r.s t.r.e 1) 1) (rawE (rawS t.r.s t.r.e 1) (rawE t.r.s t.r.e 1) 1) kn) vn], t.kids, ⟨rawS (rawS (rawS (rawS t.r.s t.r.e 1) (rawE t.r.s t.r.e 1) 1) (rawE (rawS t.r.s t.r.e 1) (rawE t.r.s t.r.e 1) 1) kn) (rawE (rawS (rawS t.r.s t.r.e 1) (rawE t.r.s t.r.e 1) 1) (rawE (rawS t.r.s t.r.e 1) (rawE t.r.s t.r.e 1) 1) kn) vn, rawE (rawS (rawS (rawS t.r.s t.r.e 1) (rawE t.r.s t.r.e 1) 1) (rawE (rawS t.r.s t.r.e 1) (rawE t.r.s t.r.e 1) 1) kn) (rawE (rawS (rawS t.r.s t.r.e 1) (rawE t.r.s t.r.e 1) 1) (rawE (rawS t.r.s t.r.e 1) (rawE t.r.s t.r.e 1) 1) kn) vn⟩⟩ := by
            unfold RSt.leafStep
            dsimp only
            rw [HKV.out.1, HKV.out.2]
            rfl
          have eK : tcells (t.keys ++ [rawT (rawS (rawS t.r.s t.r.e 1) (rawE t.r.s t.r.e 1) 1) (rawE (rawS t.r.s t.r.e 1) (rawE t.r.s t.r.e 1) 1) kn]) = tcells t.keys ++ tcells [rawT (rawS (rawS t.r.s t.r.e 1) (rawE t.r.s t.r.e 1) 1) (rawE (rawS t.r.s t.r.e 1) (rawE t.r.s t.r.e 1) 1) kn] := List.map_append
          have eV : tcells (t.values ++ [rawT (rawS (rawS (rawS t.r.s t.r.e 1) (rawE t.r.s t.r.e 1) 1) (rawE (rawS t.r.s t.r.e 1) (rawE t.r.s t.r.e 1) 1) kn) (rawE (rawS (rawS t.r.s t.r.e 1) (rawE t.r.s t.r.e 1) 1) (rawE (rawS t.r.s t.r.e 1) (rawE t.r.s t.r.e 1) 1) kn) vn]) = tcells t.values ++ tcells [rawT (rawS (rawS (rawS t.r.s t.r.e 1) (rawE t.r.s t.r.e 1) 1) (rawE (rawS t.r.s t.r.e 1) (rawE t.r.s t.r.e 1) 1) kn) (rawE (rawS (rawS t.r.s t.r.e 1) (rawE t.r.s t.r.e 1) 1) (rawE (rawS t.r.s t.r.e 1) (rawE t.r.s t.r.e 1) 1) kn) vn] := List.map_append
          refine ⟨k + 1, a6, cap6, a9, cap9, ia, ic, (fun j => (K j ∨ j = w5.heap.size + 1) ∧ j < w6.heap.size), (fun j => (V j ∨ j = w8.heap.size + 1) ∧ j < w9.heap.size), I, by omega, by go_num, ?_, ?_, ?_⟩
          · rw [hstep.out, eS]
            refine ⟨?_, ⟨?_, ?_, gI⟩, r10, ⟨?_, ?_, ?_, mK, mV, nI⟩, ?_⟩
            · dsimp only
              rw [List.length_append, List.length_append]
              exact b10
            · dsimp only
              rw [List.length_append, eK]
              exact gK
            · dsimp only
              rw [List.length_append, eV]
              exact gV
            · intro j hj hv
              rcases hv.1 with e | e
              · exact nKV j hj e
              · have := hj.2; omega
            · intro j hj hv
              rcases hj.1 with e | e
              · exact ap.ki j e hv
              · have := tp j (Or.inr (Or.inr hv)); omega
            · intro j hj hv
              rcases hj.1 with e | e
              · exact ap.vi j e hv
              · have := tp j (Or.inr (Or.inr hv)); omega
            · intro j hj
              rcases hj with h1 | h1 | h1
              · have := h1.2; omega
              · have := h1.2; omega
              · have := tp j (Or.inr (Or.inr h1)); omega
          · exact c10.keeps (hq9.keeps (cB.keeps (c7.keeps (hq6.keeps (cA.keeps b0r (by omega)) (fun e => by have := ap.k _ e; omega)) (by omega)) (by omega)) (fun e => by have := ap.v _ e; omega)) (by omega)
          · exact (((((hcr.trans (cA.mono (fun j _ e => Or.inl e))).trans (hq6.mono (fun j _ e => Or.inr (by have := ap.k j e; omega)))).trans (c7.mono (fun j _ e => Or.inr (by omega)))).trans (cB.mono (fun j _ e => Or.inl e))).trans (hq9.mono (fun j _ e => Or.inr (by have := ap.v j e; omega)))).trans (c10.mono (fun j _ e => Or.inr (by omega)))
        case measure => simp [intOf]; omega
      · have heb : ((rsLeaf s e k).r.e != 0) = true := by simpa using he
        go_wp2_with fail
        have hTk : T = rsLeaf s e k := by rw [HT.out]; exact RSt.run_stays he n (by omega)
        have hc4 := chg4 (Bl.refl wr) D (.bool true) (.slice ka (rsLeaf s e k).keys.length kc) (.slice va (rsLeaf s e k).values.length vc) (.slice ia (rsLeaf s e k).kids.length ic)
        refine bodyPost_ret (v := .agg #[.bool true, .slice ka (rsLeaf s e k).keys.length kc, .slice va (rsLeaf s e k).values.length vc, .slice ia (rsLeaf s e k).kids.length ic]) (by simp [results, Try.results57, go_sem, *]) rfl ?_
        rw [hTk]
        exact read_fin HD.out HRB.out hst hcr hc4
    · obtain rfl : k = n := by omega
      go_wp2_with fail
      have hTk : T = rsLeaf s e k := HT.out
      have hc4 := chg4 (Bl.refl wr) D (.bool true) (.slice ka (rsLeaf s e k).keys.length kc) (.slice va (rsLeaf s e k).values.length vc) (.slice ia (rsLeaf s e k).kids.length ic)
      refine bodyPost_ret (v := .agg #[.bool true, .slice ka (rsLeaf s e k).keys.length kc, .slice va (rsLeaf s e k).values.length vc, .slice ia (rsLeaf s e k).kids.length ic]) (by simp [results, Try.results57, go_sem, *]) rfl ?_
      rw [hTk]
      exact read_fin HD.out HRB.out hst hcr hc4
end Go.Proofs.Ytjdkalimaldofaa
