/-
  node's read at a kind that is no leaf's: the walk.
-/
import Derived.Test.YtjdkalimaldofaaNRead
namespace Go.Proofs.Ytjdkalimaldofaa
open Go.RowKit
set_option linter.unusedSimpArgs false
set_option linter.unusedVariables false
def rsInner (s : ByteArray) (e : Int) (k : Nat) : RSt := RSt.run RSt.innerStep k ⟨[], [], [rdNum s e 4], ⟨rawS s e 4, rawE s e 4⟩⟩
set_option maxRecDepth 100000 in
set_option maxHeartbeats 4000000 in
theorem read_inner (w : World) (rb : Nat) (s : ByteArray) (e : Int) (n : Nat) (kb : Int) (hkb : kb ≠ 1) (h : Rdr w rb s e) (hs : s.size ≤ 8192) (hn : n ≤ 65535) :
    Calls Try.prog 57 #[.pointer (some ⟨rb, 0, none⟩), .int .u8 kb, .int .i64 n] w fun x w' => (∃ v, x = .returned v ∧ NodeAt w' (fun j => w.heap.size ≤ j) v ⟨false, (rsInner s e n).keys, (rsInner s e n).values, (rsInner s e n).kids⟩ ∧ Rdr w' rb (rsInner s e n).r.s (rsInner s e n).r.e) ∧ Chg (fun j => j = rb) w w' := by
  obtain ⟨T, hT⟩ : ∃ T, T = rsInner s e n := ⟨_, rfl⟩
  rw [← hT]
  have HT := Lib.hid hT
  have HN := Lib.hid hn
  obtain ⟨i9, hi9, hz90, hz91, hz92⟩ := info_parts info9
  obtain ⟨i3, hi3, hz30, hz31, hz32⟩ := info_parts info3
  clear hT
  have hkq : (kb == 1) = false := by simpa using hkb
  obtain ⟨v0, hv0⟩ := Int.eq_ofNat_of_zero_le (RS.num_in4 ⟨s, e⟩).1
  have hvn' : rdNum s e 4 = (v0 : Int) := hv0
  have hv00 : (0 : Int) ≤ (v0 : Int) := by omega
  have hv01 : (v0 : Int) ≤ 4294967295 := by have := (RS.num_in4 ⟨s, e⟩).2; omega
  have HV0 := Lib.hid hvn'
  have hw0 : IntKind.i64.wrap (v0 : Int) = (v0 : Int) := IntWalk.i64_in _ ⟨by omega, by omega⟩
  clear hv0
  go_enter Try.func57, Try.ntmps57
  go_wp2_with fail
  have kW : Bl w ((w.alloc (.cells #[.bool false, .slice none 0 0, .slice none 0 0, .slice none 0 0] 25)).alloc (.cells #[.bool false, .slice none 0 0, .slice none 0 0, .slice none 0 0] 25)) := ((Bl.refl w).alloc _).alloc _
  have b0 : ((w.alloc (.cells #[.bool false, .slice none 0 0, .slice none 0 0, .slice none 0 0] 25)).alloc (.cells #[.bool false, .slice none 0 0, .slice none 0 0, .slice none 0 0] 25)).heap[w.heap.size]? = some (.cells #[.bool false, .slice none 0 0, .slice none 0 0, .slice none 0 0] 25 (0, 0)) := block_old _ (block_new _ _)
  have b1 : ((w.alloc (.cells #[.bool false, .slice none 0 0, .slice none 0 0, .slice none 0 0] 25)).alloc (.cells #[.bool false, .slice none 0 0, .slice none 0 0, .slice none 0 0] 25)).heap[w.heap.size + 1]? = some (.cells #[.bool false, .slice none 0 0, .slice none 0 0, .slice none 0 0] 25 (0, 0)) := block_new' _ (by simp)
  have hrb : rb < w.heap.size := lt_of_block h
  have h1 := h.bl kW
  generalize (w.alloc (.cells #[.bool false, .slice none 0 0, .slice none 0 0, .slice none 0 0] 25)).alloc (.cells #[.bool false, .slice none 0 0, .slice none 0 0, .slice none 0 0] 25) = w1 at *
  obtain ⟨D, hD⟩ : ∃ D, D = w.heap.size := ⟨_, rfl⟩
  have HD := Lib.hid hD
  have HRB := Lib.hid hrb
  rw [← hD] at b0 b1 ⊢
  have cW : Chg (fun j => j = rb ∨ D ≤ j) w w1 := Chg.of_below kW
  have nrb : ¬ D + 1 = rb := by omega
  have nDrb : ¬ D = rb := by omega
  clear kW hrb hD
  refine M_region (S := fun w' => w'.cell? ⟨D + 1, 3, none⟩ = some (.slice none 0 0)) (z := 8) (by kernel_rfl) ?_
  have hS0 : (fun w' : World => w'.cell? ⟨D + 1, 3, none⟩ = some (.slice none 0 0)) w1.drew := (cells4 (below_keeps (Bl.drew (Bl.refl w1)) b1 (lt_of_block b1))).2.2.2.1
  refine M_take (i := 0) (by decide) (by kernel_rfl) (by kernel_rfl) (by kernel_rfl) (by kernel_rfl) (fun _ _ _ h => h) hS0 (by rfl) (v := ?_) ?_ ?_
  rotate_left
  · intro w' hSw
    have hs1 : w'.cell? ⟨D + 1, 3, none⟩ = some (.slice none 0 0) := hSw
    go_simp
    try with_reducible rfl
  try simp only [Act.put, List.getElem_toArray, List.getElem_cons_succ, List.getElem_cons_zero, List.setIfInBounds_toArray, List.set_cons_zero, List.set_cons_succ]
  refine M_take (i := 1) (by decide) (by kernel_rfl) (by kernel_rfl) (by kernel_rfl) (by kernel_rfl) (fun _ _ _ h => h) hS0 (by rfl) (v := ?_) ?_ ?_
  rotate_left
  · intro w' hSw
    have hs1 : w'.cell? ⟨D + 1, 3, none⟩ = some (.slice none 0 0) := hSw
    go_simp
    try with_reducible rfl
  try simp only [Act.put, List.getElem_toArray, List.getElem_cons_succ, List.getElem_cons_zero, List.setIfInBounds_toArray, List.set_cons_zero, List.set_cons_succ]
  refine M_take (i := 2) (by decide) (by kernel_rfl) (by kernel_rfl) (by kernel_rfl) (by kernel_rfl) (fun _ _ _ h => h) hS0 (by rfl) (v := ?_) ?_ ?_
  rotate_left
  · intro w' hSw
    have hs1 : w'.cell? ⟨D + 1, 3, none⟩ = some (.slice none 0 0) := hSw
    go_simp
    try with_reducible rfl
  try simp only [Act.put, List.getElem_toArray, List.getElem_cons_succ, List.getElem_cons_zero, List.setIfInBounds_toArray, List.set_cons_zero, List.set_cons_succ]
  refine M_one (i := 3) (by decide) (by kernel_rfl) (fun K' hK => ?_)
  try simp only [List.getElem_toArray, List.getElem_cons_succ, List.getElem_cons_zero]
  go_simp
  refine (rdu32_any _ rb _ _ (h1.bl (Bl.drew (Bl.refl w1))) hs).mono ?_
  rw [hvn']
  rintro x w2 ⟨rfl, r2, c2⟩
  have b2 := c2.keeps (below_keeps (Bl.drew (Bl.refl w1)) b1 (lt_of_block b1)) nrb
  try dsimp only
  refine hK.out _ _ (Or.inr (cells4 b2).2.2.2.1) ?_
  clear hK K'
  try simp only [Act.put, List.getElem_toArray, List.getElem_cons_succ, List.getElem_cons_zero, List.setIfInBounds_toArray, List.set_cons_zero, List.set_cons_succ]
  refine M_one (i := 4) (by decide) (by kernel_rfl) (fun K' hK => ?_)
  try simp only [List.getElem_toArray, List.getElem_cons_succ, List.getElem_cons_zero]
  go_simp
  refine hK.out _ _ (Or.inr (cells4 b2).2.2.2.1) ?_
  clear hK K'
  try simp only [Act.put, List.getElem_toArray, List.getElem_cons_succ, List.getElem_cons_zero, List.setIfInBounds_toArray, List.set_cons_zero, List.set_cons_succ]
  refine M_one (i := 5) (by decide) (by kernel_rfl) (fun K' hK => ?_)
  try simp only [List.getElem_toArray, List.getElem_cons_succ, List.getElem_cons_zero]
  go_simp
  refine hK.out _ _ (Or.inr (cells4 (below_keeps ((Bl.refl w2).alloc _) b2 (lt_of_block b2))).2.2.2.1) ?_
  clear hK K'
  try simp only [Act.put, List.getElem_toArray, List.getElem_cons_succ, List.getElem_cons_zero, List.setIfInBounds_toArray, List.set_cons_zero, List.set_cons_succ]
  refine M_one (i := 6) (by decide) (by kernel_rfl) (fun K' hK => ?_)
  refine step_append_sl rfl (.tmp 17) (.tmp 21) 23 rfl 3 i3 (.int .i64 0) 1 8 Try.underlying23 hi3 hz30 hz31 hz32 rfl (fun _ => False) _ 0 [] rfl ?_ (fun j => j = w2.heap.size) _ 1 (icells [(v0 : Int)]) rfl ?_ (icells_one _) ?_ ?_ ?_
  · exact SlAt.nil _ _ _ _ _
  · exact rd_newG rfl rfl (by unfold maxLen; omega)
  · unfold maxLen; omega
  · omega
  intro v3 w3 hs3 hc3
  obtain ⟨a3, cap3, rfl⟩ := hs3.shape
  have hq3 : Chg (fun _ => False) w2 w3 := ((Chg.refl _ _).alloc _).trans hc3
  have b3 := hq3.keeps b2 (fun e => e)
  refine hK.out _ _ (Or.inr (cells4 b3).2.2.2.1) ?_
  clear hK K'
  try simp only [Act.put, List.getElem_toArray, List.getElem_cons_succ, List.getElem_cons_zero, List.setIfInBounds_toArray, List.set_cons_zero, List.set_cons_succ]
  refine M_one (i := 7) (by decide) (by kernel_rfl) (fun K' hK => ?_)
  try simp only [List.getElem_toArray, List.getElem_cons_succ, List.getElem_cons_zero]
  go_simp
  refine hK.out _ _ (Or.inr (cells4 b3).2.2.2.1) ?_
  clear hK K'
  try simp only [Act.put, List.getElem_toArray, List.getElem_cons_succ, List.getElem_cons_zero, List.setIfInBounds_toArray, List.set_cons_zero, List.set_cons_succ]
  obtain ⟨x0, x1, x2, x3, f0, f1, f2, f3⟩ := cells4 b3
  refine M_one (i := 8) (by decide) (by kernel_rfl) (fun K' hK => ?_)
  try simp only [List.getElem_toArray, List.getElem_cons_succ, List.getElem_cons_zero]
  go_simp
  refine hK.out _ _ (Or.inl rfl) ?_
  clear hK K'
  try simp only [Act.put, List.getElem_toArray, List.getElem_cons_succ, List.getElem_cons_zero, List.setIfInBounds_toArray, List.set_cons_zero, List.set_cons_succ]
  refine M_done (by kernel_rfl) ?_ _
  have z2 : ∀ o, (w2.alloc o).heap.size = w2.heap.size + 1 := fun o => by simp
  have b4 : (w3.setCell ⟨D + 1, 3, none⟩ (.slice a3 1 cap3)).heap[D + 1]? = some (.cells #[.bool false, .slice none 0 0, .slice none 0 0, .slice a3 1 cap3] 25 (0, 0)) := by rw [block_set b3]; rfl
  have c4 : Chg (fun j => j = D + 1) w3 (w3.setCell ⟨D + 1, 3, none⟩ (.slice a3 1 cap3)) := (Chg.refl _ _).setCell _ _ (fun _ => rfl)
  have hDw := HD.out
  have hrbw := HRB.out
  have sB := lt_of_block b1
  have s2 := c2.undrew.size
  have r4 := (r2.chg hq3 (fun e => e)).chg c4 (fun e => nrb e.symm)
  have cW4 : Chg (fun j => j = rb ∨ D ≤ j) w (w3.setCell ⟨D + 1, 3, none⟩ (.slice a3 1 cap3)) := ((cW.trans (c2.undrew.mono (fun j _ e => Or.inl e))).trans (hq3.mono (fun j _ e => e.elim))).trans (c4.mono (fun j _ e => Or.inr (by omega)))
  have b04 := c4.keeps (hq3.keeps (c2.undrew.keeps b0 nDrb) (fun e => e)) (by omega)
  have hI0 := ((hs3.mono (own2 := fun j => j = w2.heap.size + 1) (fun j hj e => e.elim (fun q => q.elim) (fun q => by rw [q, z2]))).chg c4 (fun j hj e => by omega)).mono (own2 := fun j => j = w2.heap.size + 1 ∧ j < (w3.setCell ⟨D + 1, 3, none⟩ (.slice a3 1 cap3)).heap.size) (fun j hj e => ⟨e, hj⟩)
  rw [← hvn'] at hI0
  have hM2 : D + 2 ≤ w2.heap.size + 1 := by omega
  generalize w3.setCell ⟨D + 1, 3, none⟩ (.slice a3 1 cap3) = W4 at *
  generalize w2.heap.size + 1 = M2 at *
  clear x0 x1 x2 x3 f0 f1 f2 f3 hS0 hs3 hc3 hq3 b3 c4 r2 c2 z2 b2 s2 sB b0 b1 h1 cW hkq hDw hrbw hw0 hv00 hv01 hvn'
  go_wp2_with fail
  go_loopw [8, 9, 25] (fun _ _ i wr => ∃ (k : Nat) (ka : Option Addr) (kc : Nat) (va : Option Addr) (vc : Nat) (ia : Option Addr) (ic : Nat) (K V I : Nat → Prop), k ≤ n ∧ i = .int .i64 k ∧ RdAtSt wr (D + 2) (D + 1) rb false (rsInner s e k) K V I ka kc va vc ia ic ∧ wr.heap[D]? = some (.cells #[.bool false, .slice none 0 0, .slice none 0 0, .slice none 0 0] 25 (0, 0)) ∧ Chg (fun j => j = rb ∨ D ≤ j) w wr) (fun _ _ i _ => n - (intOf i).toNat)
  case atStart => exact ⟨0, none, 0, none, 0, a3, cap3, (fun _ => False), (fun _ => False), (fun j => j = M2 ∧ j < W4.heap.size), Nat.zero_le _, rfl, ⟨b4, ⟨SlAt.nil _ _ _ _ _, SlAt.nil _ _ _ _ _, hI0⟩, r4, ⟨fun _ h => h.elim, fun _ h => h.elim, fun _ h => h.elim, fun _ h => h.elim, fun _ h => h.elim, fun j h => h.1 ▸ hM2⟩, fun _ h => by rcases h with h | h | h <;> first | exact h.elim | exact h.2⟩, b04, cW4⟩
  case round =>
    obtain ⟨k, ka, kc, va, vc, ia, ic, K, V, I, hk, rfl, hst, b0r, hcr⟩ := hrel
    clear b04 b4 r4 cW4 hI0 hM2
    have i0 : (0 : Int) ≤ (k : Int) := by omega
    obtain ⟨x0, x1, x2, x3, -⟩ := cells4 hst.box
    obtain ⟨y0, y1, y2, y3, f0, f1, f2, f3⟩ := cells4 b0r
    have hrun := RSt.inner_run ⟨[], [], [rdNum s e 4], ⟨rawS s e 4, rawE s e 4⟩⟩ k
    by_cases hlt : k < n
    · have i1 : (k : Int) < (n : Int) := by omega
      go_wp2_with fail
      refine (err_any _ rb _ _ hst.rdr).mono ?_
      rintro x w2 ⟨rfl, hw2⟩
      rw [hw2]
      clear hw2 w2
      by_cases he : (rsInner s e k).r.e = 0
      · have hstep : Hid (rsInner s e (k + 1) = (rsInner s e k).innerStep) := RSt.run_step he
        have hsz : (rsInner s e k).r.s.size ≤ 8192 := Nat.le_trans hrun.1 (Nat.le_trans (rawS_le _ _ _) hs)
        have hkl : (rsInner s e k).keys.length ≤ k := Nat.le_trans hrun.2.1 (by simp)
        have hil : (rsInner s e k).kids.length ≤ 1 + k := hrun.2.2.2
        clear hrun
        generalize rsInner s e k = t at *
        have HKL := Lib.hid (And.intro hkl hil)
        clear hkl hil
        have heb : (t.r.e != 0) = false := by simp [he]
        obtain ⟨kn, hkn⟩ := Int.eq_ofNat_of_zero_le (RS.num_in1 t.r).1
        obtain ⟨vn, hvn⟩ := Int.eq_ofNat_of_zero_le (RS.num_in4 ((t.r.raw 1).raw kn)).1
        have hkn' : rdNum t.r.s t.r.e 1 = (kn : Int) := hkn
        have hvn' : rdNum (rawS (rawS t.r.s t.r.e 1) (rawE t.r.s t.r.e 1) kn) (rawE (rawS t.r.s t.r.e 1) (rawE t.r.s t.r.e 1) kn) 4 = (vn : Int) := hvn
        have HKV := Lib.hid (And.intro hkn hvn)
        have hk0 : (0 : Int) ≤ (kn : Int) := by omega
        have hk1 : (kn : Int) ≤ 255 := by have := (RS.num_in1 t.r).2; omega
        have hv0 : (0 : Int) ≤ (vn : Int) := by omega
        have hv1 : (vn : Int) ≤ 4294967295 := by have := (RS.num_in4 ((t.r.raw 1).raw kn)).2; omega
        have hw0 : IntKind.i64.wrap (vn : Int) = (vn : Int) := IntWalk.i64_in _ ⟨by omega, by omega⟩
        clear hkn hvn he
        have nK : ∀ j, K j → ¬ j = rb := fun j hj e => by have h1 := hst.ap.k j hj; have h2 := HD.out; have h3 := HRB.out; omega
        go_wp2_with fail
        refine (rdu8_any _ rb _ _ hst.rdr hsz).mono ?_
        rw [hkn']
        rintro x w3 ⟨rfl, r3, c3⟩
        have b3 := c3.keeps hst.box nrb
        have hsz3 := Nat.le_trans (rawS_le t.r.s t.r.e 1) hsz
        clear x0 x1 x2 x3 y0 y1 y2 y3 f0 f1 f2 f3 heb
        obtain ⟨x0, x1, x2, x3, f0, f1, f2, f3⟩ := cells4 b3
        go_wp2_with fail
        refine M_region (S := fun w' => w'.cell? ⟨D + 1, 1, none⟩ = some (.slice ka t.keys.length kc)) (z := 8) (by kernel_rfl) ?_
        have hS0 : (fun w' : World => w'.cell? ⟨D + 1, 1, none⟩ = some (.slice ka t.keys.length kc)) w3.drew := (cells4 (below_keeps (Bl.drew (Bl.refl w3)) b3 (lt_of_block b3))).2.1
        refine M_take (i := 0) (by decide) (by kernel_rfl) (by kernel_rfl) (by kernel_rfl) (by kernel_rfl) (fun _ _ _ h => h) hS0 (by rfl) (v := ?_) ?_ ?_
        rotate_left
        · intro w' hSw
          have hs1 : w'.cell? ⟨D + 1, 1, none⟩ = some (.slice ka t.keys.length kc) := hSw
          go_simp
          try with_reducible rfl
        try simp only [Act.put, List.getElem_toArray, List.getElem_cons_succ, List.getElem_cons_zero, List.setIfInBounds_toArray, List.set_cons_zero, List.set_cons_succ]
        refine M_take (i := 1) (by decide) (by kernel_rfl) (by kernel_rfl) (by kernel_rfl) (by kernel_rfl) (fun _ _ _ h => h) hS0 (by rfl) (v := ?_) ?_ ?_
        rotate_left
        · intro w' hSw
          have hs1 : w'.cell? ⟨D + 1, 1, none⟩ = some (.slice ka t.keys.length kc) := hSw
          go_simp
          try with_reducible rfl
        try simp only [Act.put, List.getElem_toArray, List.getElem_cons_succ, List.getElem_cons_zero, List.setIfInBounds_toArray, List.set_cons_zero, List.set_cons_succ]
        refine M_take (i := 2) (by decide) (by kernel_rfl) (by kernel_rfl) (by kernel_rfl) (by kernel_rfl) (fun _ _ _ h => h) hS0 (by rfl) (v := ?_) ?_ ?_
        rotate_left
        · intro w' hSw
          have hs1 : w'.cell? ⟨D + 1, 1, none⟩ = some (.slice ka t.keys.length kc) := hSw
          go_simp
          try with_reducible rfl
        try simp only [Act.put, List.getElem_toArray, List.getElem_cons_succ, List.getElem_cons_zero, List.setIfInBounds_toArray, List.set_cons_zero, List.set_cons_succ]
        refine M_take (i := 3) (by decide) (by kernel_rfl) (by kernel_rfl) (by kernel_rfl) (by kernel_rfl) (fun _ _ _ h => h) hS0 (by rfl) (v := ?_) ?_ ?_
        rotate_left
        · intro w' hSw
          have hs1 : w'.cell? ⟨D + 1, 1, none⟩ = some (.slice ka t.keys.length kc) := hSw
          go_simp
          try with_reducible rfl
        try simp only [Act.put, List.getElem_toArray, List.getElem_cons_succ, List.getElem_cons_zero, List.setIfInBounds_toArray, List.set_cons_zero, List.set_cons_succ]
        refine M_one (i := 4) (by decide) (by kernel_rfl) (fun K' hK => ?_)
        try simp only [List.getElem_toArray, List.getElem_cons_succ, List.getElem_cons_zero]
        go_simp
        refine (rdraw_any _ rb _ _ kn (r3.bl (Bl.drew (Bl.refl w3))) hsz3).mono ?_
        rintro x w5 ⟨rfl, r5, c5⟩
        have b5 := c5.keeps (below_keeps (Bl.drew (Bl.refl w3)) b3 (lt_of_block b3)) nrb
        try dsimp only
        refine hK.out _ _ (Or.inr (cells4 b5).2.1) ?_
        clear hK K'
        try simp only [Act.put, List.getElem_toArray, List.getElem_cons_succ, List.getElem_cons_zero, List.setIfInBounds_toArray, List.set_cons_zero, List.set_cons_succ]
        refine M_one (i := 5) (by decide) (by kernel_rfl) (fun K' hK => ?_)
        try simp only [List.getElem_toArray, List.getElem_cons_succ, List.getElem_cons_zero]
        go_simp
        refine hK.out _ _ (Or.inr (cells4 (below_keeps ((Bl.refl w5).alloc _) b5 (lt_of_block b5))).2.1) ?_
        clear hK K'
        try simp only [Act.put, List.getElem_toArray, List.getElem_cons_succ, List.getElem_cons_zero, List.setIfInBounds_toArray, List.set_cons_zero, List.set_cons_succ]
        refine M_one (i := 6) (by decide) (by kernel_rfl) (fun K' hK => ?_)
        refine step_append_sl rfl (.tmp 39) (.tmp 43) 22 rfl 9 i9 (.string ⟨#[]⟩) 1 16 Try.underlying22 hi9 hz90 hz91 hz92 rfl K _ t.keys.length (tcells t.keys) rfl ?_ (fun j => j = w5.heap.size) _ 1 (tcells [rawT (rawS t.r.s t.r.e 1) (rawE t.r.s t.r.e 1) kn]) rfl ?_ (tcells_one _) ?_ ?_ ?_
        · exact ((hst.sl.keys.chg c3 nK).below (Bl.drew (Bl.refl w3)) |>.chg c5 nK).below ((Bl.refl w5).alloc _)
        · exact rd_newG rfl rfl (by unfold maxLen; omega)
        · have := HKL.out; have := HN.out; unfold maxLen; omega
        · have := HKL.out; have := HN.out; omega
        intro v6 w6 hs6 hc6
        obtain ⟨a6, cap6, rfl⟩ := hs6.shape
        have hq6 : Chg K w5 w6 := ((Chg.refl _ _).alloc _).trans hc6
        have b6 := hq6.keeps b5 (fun e => by have := hst.ap.k _ e; omega)
        refine hK.out _ _ (Or.inr (cells4 b6).2.1) ?_
        clear hK K'
        try simp only [Act.put, List.getElem_toArray, List.getElem_cons_succ, List.getElem_cons_zero, List.setIfInBounds_toArray, List.set_cons_zero, List.set_cons_succ]
        refine M_one (i := 7) (by decide) (by kernel_rfl) (fun K' hK => ?_)
        try simp only [List.getElem_toArray, List.getElem_cons_succ, List.getElem_cons_zero]
        go_simp
        refine hK.out _ _ (Or.inr (cells4 b6).2.1) ?_
        clear hK K'
        try simp only [Act.put, List.getElem_toArray, List.getElem_cons_succ, List.getElem_cons_zero, List.setIfInBounds_toArray, List.set_cons_zero, List.set_cons_succ]
        obtain ⟨x0, x1, x2, x3, f0, f1, f2, f3⟩ := cells4 b6
        refine M_one (i := 8) (by decide) (by kernel_rfl) (fun K' hK => ?_)
        try simp only [List.getElem_toArray, List.getElem_cons_succ, List.getElem_cons_zero]
        go_simp
        refine hK.out _ _ (Or.inl rfl) ?_
        clear hK K'
        try simp only [Act.put, List.getElem_toArray, List.getElem_cons_succ, List.getElem_cons_zero, List.setIfInBounds_toArray, List.set_cons_zero, List.set_cons_succ]
        refine M_done (by kernel_rfl) ?_ _
        have b7 : (w6.setCell ⟨D + 1, 1, none⟩ (.slice a6 (t.keys.length + 1) cap6)).heap[D + 1]? = some (.cells #[.bool false, .slice a6 (t.keys.length + 1) cap6, .slice va t.values.length vc, .slice ia t.kids.length ic] 25 (0, 0)) := by rw [block_set b6]; rfl
        have c7 : Chg (fun j => j = D + 1) w6 (w6.setCell ⟨D + 1, 1, none⟩ (.slice a6 (t.keys.length + 1) cap6)) := (Chg.refl _ _).setCell _ _ (fun _ => rfl)
        have r7 := (r5.chg hq6 (fun e => by have h1 := hst.ap.k _ e; have h2 := HD.out; have h3 := HRB.out; omega)).chg c7 (fun e => nrb e.symm)
        generalize w6.setCell ⟨D + 1, 1, none⟩ (.slice a6 (t.keys.length + 1) cap6) = w7 at *
        clear x0 x1 x2 x3 f0 f1 f2 f3 hS0
        obtain ⟨x0, x1, x2, x3, f0, f1, f2, f3⟩ := cells4 b7
        go_wp2_with fail
        have hsz7 := Nat.le_trans (rawS_le _ (rawE t.r.s t.r.e 1) kn) hsz3
        have nI : ∀ j, I j → ¬ j = rb := fun j hj e => by have h1 := hst.ap.i j hj; have h2 := HD.out; have h3 := HRB.out; omega
        have hi7 := (((hst.sl.kids.chg c3 nI).below (Bl.drew (Bl.refl w3)) |>.chg c5 nI).chg hq6 (fun j hj e => hst.ap.ki j e hj)).chg c7 (fun j hj e => by have h1 := hst.ap.i j hj; omega)
        refine M_region (S := fun w' => w'.cell? ⟨D + 1, 3, none⟩ = some (.slice ia t.kids.length ic)) (z := 8) (by kernel_rfl) ?_
        have hS0 : (fun w' : World => w'.cell? ⟨D + 1, 3, none⟩ = some (.slice ia t.kids.length ic)) w7.drew := (cells4 (below_keeps (Bl.drew (Bl.refl w7)) b7 (lt_of_block b7))).2.2.2.1
        refine M_take (i := 0) (by decide) (by kernel_rfl) (by kernel_rfl) (by kernel_rfl) (by kernel_rfl) (fun _ _ _ h => h) hS0 (by rfl) (v := ?_) ?_ ?_
        rotate_left
        · intro w' hSw
          have hs1 : w'.cell? ⟨D + 1, 3, none⟩ = some (.slice ia t.kids.length ic) := hSw
          go_simp
          try with_reducible rfl
        try simp only [Act.put, List.getElem_toArray, List.getElem_cons_succ, List.getElem_cons_zero, List.setIfInBounds_toArray, List.set_cons_zero, List.set_cons_succ]
        refine M_take (i := 1) (by decide) (by kernel_rfl) (by kernel_rfl) (by kernel_rfl) (by kernel_rfl) (fun _ _ _ h => h) hS0 (by rfl) (v := ?_) ?_ ?_
        rotate_left
        · intro w' hSw
          have hs1 : w'.cell? ⟨D + 1, 3, none⟩ = some (.slice ia t.kids.length ic) := hSw
          go_simp
          try with_reducible rfl
        try simp only [Act.put, List.getElem_toArray, List.getElem_cons_succ, List.getElem_cons_zero, List.setIfInBounds_toArray, List.set_cons_zero, List.set_cons_succ]
        refine M_take (i := 2) (by decide) (by kernel_rfl) (by kernel_rfl) (by kernel_rfl) (by kernel_rfl) (fun _ _ _ h => h) hS0 (by rfl) (v := ?_) ?_ ?_
        rotate_left
        · intro w' hSw
          have hs1 : w'.cell? ⟨D + 1, 3, none⟩ = some (.slice ia t.kids.length ic) := hSw
          go_simp
          try with_reducible rfl
        try simp only [Act.put, List.getElem_toArray, List.getElem_cons_succ, List.getElem_cons_zero, List.setIfInBounds_toArray, List.set_cons_zero, List.set_cons_succ]
        refine M_one (i := 3) (by decide) (by kernel_rfl) (fun K' hK => ?_)
        try simp only [List.getElem_toArray, List.getElem_cons_succ, List.getElem_cons_zero]
        go_simp
        refine (rdu32_any _ rb _ _ (r7.bl (Bl.drew (Bl.refl w7))) hsz7).mono ?_
        rw [hvn']
        rintro x w8 ⟨rfl, r8, c8⟩
        have b8 := c8.keeps (below_keeps (Bl.drew (Bl.refl w7)) b7 (lt_of_block b7)) nrb
        try dsimp only
        refine hK.out _ _ (Or.inr (cells4 b8).2.2.2.1) ?_
        clear hK K'
        try simp only [Act.put, List.getElem_toArray, List.getElem_cons_succ, List.getElem_cons_zero, List.setIfInBounds_toArray, List.set_cons_zero, List.set_cons_succ]
        refine M_one (i := 4) (by decide) (by kernel_rfl) (fun K' hK => ?_)
        try simp only [List.getElem_toArray, List.getElem_cons_succ, List.getElem_cons_zero]
        go_simp
        refine hK.out _ _ (Or.inr (cells4 b8).2.2.2.1) ?_
        clear hK K'
        try simp only [Act.put, List.getElem_toArray, List.getElem_cons_succ, List.getElem_cons_zero, List.setIfInBounds_toArray, List.set_cons_zero, List.set_cons_succ]
        refine M_one (i := 5) (by decide) (by kernel_rfl) (fun K' hK => ?_)
        try simp only [List.getElem_toArray, List.getElem_cons_succ, List.getElem_cons_zero]
        go_simp
        refine hK.out _ _ (Or.inr (cells4 (below_keeps ((Bl.refl w8).alloc _) b8 (lt_of_block b8))).2.2.2.1) ?_
        clear hK K'
        try simp only [Act.put, List.getElem_toArray, List.getElem_cons_succ, List.getElem_cons_zero, List.setIfInBounds_toArray, List.set_cons_zero, List.set_cons_succ]
        refine M_one (i := 6) (by decide) (by kernel_rfl) (fun K' hK => ?_)
        refine step_append_sl rfl (.tmp 57) (.tmp 61) 23 rfl 3 i3 (.int .i64 0) 1 8 Try.underlying23 hi3 hz30 hz31 hz32 rfl I _ t.kids.length (icells t.kids) rfl ?_ (fun j => j = w8.heap.size) _ 1 (icells [(vn : Int)]) rfl ?_ (icells_one _) ?_ ?_ ?_
        · exact ((hi7.below (Bl.drew (Bl.refl w7))).chg c8 nI).below ((Bl.refl w8).alloc _)
        · exact rd_newG rfl rfl (by unfold maxLen; omega)
        · have := HKL.out; have := HN.out; unfold maxLen; omega
        · have := HKL.out; have := HN.out; omega
        intro v10 w10 hs10 hc10
        obtain ⟨a10, cap10, rfl⟩ := hs10.shape
        have hq10 : Chg I w8 w10 := ((Chg.refl _ _).alloc _).trans hc10
        have b10 := hq10.keeps b8 (fun e => by have := hst.ap.i _ e; omega)
        refine hK.out _ _ (Or.inr (cells4 b10).2.2.2.1) ?_
        clear hK K'
        try simp only [Act.put, List.getElem_toArray, List.getElem_cons_succ, List.getElem_cons_zero, List.setIfInBounds_toArray, List.set_cons_zero, List.set_cons_succ]
        refine M_one (i := 7) (by decide) (by kernel_rfl) (fun K' hK => ?_)
        try simp only [List.getElem_toArray, List.getElem_cons_succ, List.getElem_cons_zero]
        go_simp
        refine hK.out _ _ (Or.inr (cells4 b10).2.2.2.1) ?_
        clear hK K'
        try simp only [Act.put, List.getElem_toArray, List.getElem_cons_succ, List.getElem_cons_zero, List.setIfInBounds_toArray, List.set_cons_zero, List.set_cons_succ]
        obtain ⟨x0, x1, x2, x3, f0, f1, f2, f3⟩ := cells4 b10
        refine M_one (i := 8) (by decide) (by kernel_rfl) (fun K' hK => ?_)
        try simp only [List.getElem_toArray, List.getElem_cons_succ, List.getElem_cons_zero]
        go_simp
        refine hK.out _ _ (Or.inl rfl) ?_
        clear hK K'
        try simp only [Act.put, List.getElem_toArray, List.getElem_cons_succ, List.getElem_cons_zero, List.setIfInBounds_toArray, List.set_cons_zero, List.set_cons_succ]
        refine M_done (by kernel_rfl) ?_ _
        have b11 : (w10.setCell ⟨D + 1, 3, none⟩ (.slice a10 (t.kids.length + 1) cap10)).heap[D + 1]? = some (.cells #[.bool false, .slice a6 (t.keys.length + 1) cap6, .slice va t.values.length vc, .slice a10 (t.kids.length + 1) cap10] 25 (0, 0)) := by rw [block_set b10]; rfl
        have c11 : Chg (fun j => j = D + 1) w10 (w10.setCell ⟨D + 1, 3, none⟩ (.slice a10 (t.kids.length + 1) cap10)) := (Chg.refl _ _).setCell _ _ (fun _ => rfl)
        have r11 := (r8.chg hq10 (fun e => by have h1 := hst.ap.i _ e; have h2 := HD.out; have h3 := HRB.out; omega)).chg c11 (fun e => nrb e.symm)
        generalize w10.setCell ⟨D + 1, 3, none⟩ (.slice a10 (t.kids.length + 1) cap10) = w11 at *
        go_wp2_with fail
        go_roundw
        case rel =>
          have z5 : ∀ o, (w5.alloc o).heap.size = w5.heap.size + 1 := fun o => by simp
          have z8 : ∀ o, (w8.alloc o).heap.size = w8.heap.size + 1 := fun o => by simp
          have cA : Chg (fun j => j = rb) wr w5 := (c3.drew).trans c5
          have cB := c8.undrew
          have s1 := cA.size
          have s2 := hc6.size
          have s3 := c7.size
          have s4 := cB.size
          have s5 := hc10.size
          have s6 := c11.size
          rw [z5] at s2
          rw [z8] at s5
          have hDw := HD.out
          have hrbw := HRB.out
          have sB := lt_of_block hst.box
          have ap := hst.ap
          have tp := hst.top
          have hs6' := hs6.mono (own2 := fun j => (K j ∨ j = w5.heap.size + 1) ∧ j < w6.heap.size) (fun j hj e => ⟨e.imp id (fun q => by rw [q, z5]), hj⟩)
          have hs10' := hs10.mono (own2 := fun j => (I j ∨ j = w8.heap.size + 1) ∧ j < w10.heap.size) (fun j hj e => ⟨e.imp id (fun q => by rw [q, z8]), hj⟩)
          have mK : ∀ j, ((K j ∨ j = w5.heap.size + 1) ∧ j < w6.heap.size) → D + 2 ≤ j := fun j hj => by
            rcases hj.1 with e | e
            · exact ap.k j e
            · omega
          have mI : ∀ j, ((I j ∨ j = w8.heap.size + 1) ∧ j < w10.heap.size) → D + 2 ≤ j := fun j hj => by
            rcases hj.1 with e | e
            · exact ap.i j e
            · omega
          have nKI : ∀ j, ((K j ∨ j = w5.heap.size + 1) ∧ j < w6.heap.size) → ¬ I j := fun j hj hv => by
            rcases hj.1 with e | e
            · exact ap.ki j e hv
            · have := tp j (Or.inr (Or.inr hv)); omega
          have mV : ∀ j, V j → D + 2 ≤ j := ap.v
          have gK := (((hs6'.chg c7 (fun j hj e => by have := mK j hj; omega)).chg cB (fun j hj e => by have := mK j hj; omega)).chg hq10 nKI).chg c11 (fun j hj e => by have := mK j hj; omega)
          have gI := hs10'.chg c11 (fun j hj e => by have := mI j hj; omega)
          have gV := ((((hst.sl.values.chg cA (fun j hj e => by have := mV j hj; omega)).chg hq6 (fun j hj e => ap.kv j e hj)).chg c7 (fun j hj e => by have := mV j hj; omega)).chg cB (fun j hj e => by have := mV j hj; omega)).chg hq10 (fun j hj e => ap.vi j hj e) |>.chg c11 (fun j hj e => by have := mV j hj; omega)
          have eS : t.innerStep = ⟨t.keys ++ [rawT (rawS t.r.s t.r.e 1) (rawE t.r.s t.r.e 1) kn], t.values, t.kids ++ [(vn : Int)], ⟨rawS (rawS (rawS t.r.s t.r.e 1) (rawE t.r.s t.r.e 1) kn) (rawE (rawS t.r.s t.r.e 1) (rawE t.r.s t.r.e 1) kn) 4, rawE (rawS (rawS t.r.s t.r.e 1) (rawE t.r.s t.r.e 1) kn) (rawE (rawS t.r.s t.r.e 1) (rawE t.r.s t.r.e 1) kn) 4⟩⟩ := by
            have hv := HKV.out.2
            unfold RSt.innerStep
            dsimp only
            rw [HKV.out.1]
            rw [show ((kn : Int)).toNat = kn from rfl, hv]
            rfl
          have eK : tcells (t.keys ++ [rawT (rawS t.r.s t.r.e 1) (rawE t.r.s t.r.e 1) kn]) = tcells t.keys ++ tcells [rawT (rawS t.r.s t.r.e 1) (rawE t.r.s t.r.e 1) kn] := List.map_append
          have eI : icells (t.kids ++ [(vn : Int)]) = icells t.kids ++ icells [(vn : Int)] := List.map_append
          refine ⟨k + 1, a6, cap6, va, vc, a10, cap10, (fun j => (K j ∨ j = w5.heap.size + 1) ∧ j < w6.heap.size), V, (fun j => (I j ∨ j = w8.heap.size + 1) ∧ j < w10.heap.size), by omega, by go_num, ?_, ?_, ?_⟩
          · rw [hstep.out, eS]
            refine ⟨?_, ⟨?_, gV, ?_⟩, r11, ⟨?_, ?_, ?_, mK, mV, mI⟩, ?_⟩
            · dsimp only
              rw [List.length_append, List.length_append]
              exact b11
            · dsimp only
              rw [List.length_append, eK]
              exact gK
            · dsimp only
              rw [List.length_append, eI]
              exact gI
            · intro j hj hv
              rcases hj.1 with e | e
              · exact ap.kv j e hv
              · have := tp j (Or.inr (Or.inl hv)); omega
            · intro j hj hv
              rcases hv.1 with e | e
              · exact nKI j hj e
              · have := hj.2; omega
            · intro j hj hv
              rcases hv.1 with e | e
              · exact ap.vi j hj e
              · have := tp j (Or.inr (Or.inl hj)); omega
            · intro j hj
              rcases hj with h1 | h1 | h1
              · have := h1.2; omega
              · have := tp j (Or.inr (Or.inl h1)); omega
              · have := h1.2; omega
          · exact c11.keeps (hq10.keeps (cB.keeps (c7.keeps (hq6.keeps (cA.keeps b0r (by omega)) (fun e => by have := ap.k _ e; omega)) (by omega)) (by omega)) (fun e => by have := ap.i _ e; omega)) (by omega)
          · exact (((((hcr.trans (cA.mono (fun j _ e => Or.inl e))).trans (hq6.mono (fun j _ e => Or.inr (by have := ap.k j e; omega)))).trans (c7.mono (fun j _ e => Or.inr (by omega)))).trans (cB.mono (fun j _ e => Or.inl e))).trans (hq10.mono (fun j _ e => Or.inr (by have := ap.i j e; omega)))).trans (c11.mono (fun j _ e => Or.inr (by omega)))
        case measure => simp [intOf]; omega
      · have heb : ((rsInner s e k).r.e != 0) = true := by simpa using he
        go_wp2_with fail
        have hTk : T = rsInner s e k := by rw [HT.out]; exact RSt.run_stays he n (by omega)
        have hc4 := chg4 (Bl.refl wr) D (.bool false) (.slice ka (rsInner s e k).keys.length kc) (.slice va (rsInner s e k).values.length vc) (.slice ia (rsInner s e k).kids.length ic)
        refine bodyPost_ret (v := .agg #[.bool false, .slice ka (rsInner s e k).keys.length kc, .slice va (rsInner s e k).values.length vc, .slice ia (rsInner s e k).kids.length ic]) (by simp [results, Try.results57, go_sem, *]) rfl ?_
        rw [hTk]
        exact read_fin HD.out HRB.out hst hcr hc4
    · obtain rfl : k = n := by omega
      go_wp2_with fail
      have hTk : T = rsInner s e k := HT.out
      have hc4 := chg4 (Bl.refl wr) D (.bool false) (.slice ka (rsInner s e k).keys.length kc) (.slice va (rsInner s e k).values.length vc) (.slice ia (rsInner s e k).kids.length ic)
      refine bodyPost_ret (v := .agg #[.bool false, .slice ka (rsInner s e k).keys.length kc, .slice va (rsInner s e k).values.length vc, .slice ia (rsInner s e k).kids.length ic]) (by simp [results, Try.results57, go_sem, *]) rfl ?_
      rw [hTk]
      exact read_fin HD.out HRB.out hst hcr hc4
end Go.Proofs.Ytjdkalimaldofaa
