/-
  The document's read at a kind that is no leaf's: the walk.
-/
import Derived.Test.YtjdkalimaldofaaNRr2
namespace Go.Proofs.Ytjdkalimaldofaa
open Go.RowKit
set_option linter.unusedSimpArgs false
set_option linter.unusedVariables false
set_option maxRecDepth 100000 in
set_option maxHeartbeats 4000000 in
theorem rread_inner (w : World) (own : Nat → Prop) (xa : Option Addr) (xc : Nat) (xs : List Int) (hx : RdAt w own 1 (.slice xa xs.length xc) xs.length (bcells xs)) (hb : OkB xs) (h16 : 512 ≤ xs.length) (h81 : xs.length ≤ 8192) (T : RSt) (n : Nat)
    (hk1 : xs[4] ≠ 1) (hn : numTo (strOfNums ((xs.drop 6).take 2)) 2 = (n : Int)) (hn1 : n ≤ 65535) (hT : T = rsInner (strOfNums (xs.drop 16)) 0 n) :
    Calls Try.prog 60 #[.slice xa xs.length xc] w fun e w' => ∃ v ok m, e = .returned (.tuple #[v, .bool ok]) ∧ (NodeAt w' (fun j => w.heap.size ≤ j) v m ∧ Bl w w') ∧ ((ok = true ∧ T.r.e = 0 ∧ m = ⟨false, T.keys, T.values, T.kids⟩) ∨ (ok = false ∧ T.r.e ≠ 0)) := by
  have HT := Lib.hid hT
  have HN := Lib.hid hn1
  obtain ⟨i9, hi9, hz90, hz91, hz92⟩ := info_parts info9
  obtain ⟨i3, hi3, hz30, hz31, hz32⟩ := info_parts info3
  obtain ⟨q6, q6c, hsl6, hq6⟩ := slice_mid hx 6 2 (by omega) 6 8 rfl rfl
  obtain ⟨q7, q7c, hsl7, hq7⟩ := slice_mid hx 16 4 (by omega) 16 20 rfl rfl
  obtain ⟨g, off, rfl, hog, hg, hcell⟩ := hx.get (by omega)
  have HC : Hid (∀ wr, Bl w wr → ∀ (j : Nat) (hj : j < xs.length), wr.cell? ⟨g, off + j, none⟩ = some (.int .u8 xs[j])) := fun wr k j hj => (k.cell (p := ⟨g, off + j, none⟩) hg).trans (hcell j _ (bcells_get hj))
  have HX := Lib.hid hx
  have HB := Lib.hid hb
  have H6 : Hid (RdAt w own 1 (.slice q6 2 q6c) ((xs.drop 6).take 2).length (bcells ((xs.drop 6).take 2)) ∧ ((xs.drop 6).take 2).length = 2 ∧ OkB ((xs.drop 6).take 2)) := ⟨hq6, by rw [List.length_take, List.length_drop]; omega, fun x hx => hb x (List.mem_of_mem_drop (List.mem_of_mem_take hx))⟩
  have H7 : Hid (∀ W, Bl w W → Calls Try.prog 82 #[.slice q7 4 q7c] W fun e w' => e = .returned (.int .i64 (numTo (strOfNums ((xs.drop 16).take 4)) 4)) ∧ w' = W) := fun W k => number_any W own q7 4 q7c _ (hq7.below k) (by rw [List.length_take, List.length_drop]; omega) (by omega) (fun x hx => hb x (List.mem_of_mem_drop (List.mem_of_mem_take hx)))
  have HZ : Hid (rsInner (strOfNums (xs.drop 16)) 0 0 = ⟨[], [], [numTo (strOfNums ((xs.drop 16).take 4)) 4], ⟨strOfNums (xs.drop 20), 0⟩⟩) := by
    show (⟨[], [], [(⟨strOfNums (xs.drop 16), 0⟩ : RS).num 4], (⟨strOfNums (xs.drop 16), 0⟩ : RS).raw 4⟩ : RSt) = _
    rw [num_take (by rw [List.length_drop]; omega), raw_drop (by rw [List.length_drop]; omega), drop_plus]
  have kW : Bl w ((w.alloc (.cells #[.bool false, .slice none 0 0, .slice none 0 0, .slice none 0 0] 25)).alloc (.cells #[.bool false, .slice none 0 0, .slice none 0 0, .slice none 0 0] 25)) := ((Bl.refl w).alloc _).alloc _
  have c4 := HC.out _ ((Bl.refl w).alloc (.cells #[.bool false, .slice none 0 0, .slice none 0 0, .slice none 0 0] 25)) 4 (by omega)
  have hl4 : (4 : Int) < (xs.length : Int) := by omega
  have hkq : (xs[4] == 1) = false := by simpa using hk1
  generalize xs[4] = X4 at c4 hkq hk1
  clear hT hcell hx hq6 hq7 hb hk1
  have b0 : ((w.alloc (.cells #[.bool false, .slice none 0 0, .slice none 0 0, .slice none 0 0] 25)).alloc (.cells #[.bool false, .slice none 0 0, .slice none 0 0, .slice none 0 0] 25)).heap[w.heap.size]? = some (.cells #[.bool false, .slice none 0 0, .slice none 0 0, .slice none 0 0] 25 (0, 0)) := block_old _ (block_new _ _)
  have bB : ((w.alloc (.cells #[.bool false, .slice none 0 0, .slice none 0 0, .slice none 0 0] 25)).alloc (.cells #[.bool false, .slice none 0 0, .slice none 0 0, .slice none 0 0] 25)).heap[w.heap.size + 1]? = some (.cells #[.bool false, .slice none 0 0, .slice none 0 0, .slice none 0 0] 25 (0, 0)) := block_new' _ (by simp)
  generalize numTo (strOfNums ((xs.drop 16).take 4)) 4 = KD at *
  go_enter Try.func60, Try.ntmps60
  go_wp2_with fail
  generalize (w.alloc (.cells #[.bool false, .slice none 0 0, .slice none 0 0, .slice none 0 0] 25)).alloc (.cells #[.bool false, .slice none 0 0, .slice none 0 0, .slice none 0 0] 25) = W1 at *
  clear c4 hl4 hkq
  obtain ⟨D, hD⟩ : ∃ D, D = w.heap.size := ⟨_, rfl⟩
  have HD := Lib.hid hD
  rw [← hD] at b0 bB ⊢
  clear hD
  refine M_region (S := fun w' => w'.cell? ⟨D + 1, 3, none⟩ = some (.slice none 0 0)) (z := 8) (by kernel_rfl) ?_
  have hS0 : (fun w' : World => w'.cell? ⟨D + 1, 3, none⟩ = some (.slice none 0 0)) W1.drew := (cells4 (below_keeps (Bl.drew (Bl.refl W1)) bB (lt_of_block bB))).2.2.2.1
  refine M_take (i := 0) (by decide) (by kernel_rfl) (by kernel_rfl) (by kernel_rfl) (by kernel_rfl) (fun _ _ _ h => h) hS0 (by rfl) (v := ?_) ?_ ?_
  rotate_left
  · intro w' hSw
    have hs1 : w'.cell? ⟨D + 1, 3, none⟩ = some (.slice none 0 0) := hSw
    go_simp
    try with_reducible rfl
  try simp only [Act.put, List.getElem_toArray, List.getElem_cons_succ, List.getElem_cons_zero, List.setIfInBounds_toArray, List.set_cons_zero, List.set_cons_succ]
  refine M_take (i := 1) (by decide) (by kernel_rfl) (by kernel_rfl) (by kernel_rfl) (by kernel_rfl) (fun _ _ _ h => h) hS0 (by rfl) (v := ?_) ?_ ?_
  rotate_left
  · intro w' hSw
    have hs1 : w'.cell? ⟨D + 1, 3, none⟩ = some (.slice none 0 0) := hSw
    go_simp
    try with_reducible rfl
  try simp only [Act.put, List.getElem_toArray, List.getElem_cons_succ, List.getElem_cons_zero, List.setIfInBounds_toArray, List.set_cons_zero, List.set_cons_succ]
  refine M_take (i := 2) (by decide) (by kernel_rfl) (by kernel_rfl) (by kernel_rfl) (by kernel_rfl) (fun _ _ _ h => h) hS0 (by rfl) (v := ?_) ?_ ?_
  rotate_left
  · intro w' hSw
    have hs1 : w'.cell? ⟨D + 1, 3, none⟩ = some (.slice none 0 0) := hSw
    go_simp
    try with_reducible rfl
  try simp only [Act.put, List.getElem_toArray, List.getElem_cons_succ, List.getElem_cons_zero, List.setIfInBounds_toArray, List.set_cons_zero, List.set_cons_succ]
  refine M_one (i := 3) (by decide) (by kernel_rfl) (fun K' hK => ?_)
  try simp only [List.getElem_toArray, List.getElem_cons_succ, List.getElem_cons_zero]
  go_simp
  refine hK.out _ _ (Or.inr (cells4 (below_keeps (Bl.drew (Bl.refl W1)) bB (lt_of_block bB))).2.2.2.1) ?_
  clear hK K'
  try simp only [Act.put, List.getElem_toArray, List.getElem_cons_succ, List.getElem_cons_zero, List.setIfInBounds_toArray, List.set_cons_zero, List.set_cons_succ]
  refine M_one (i := 4) (by decide) (by kernel_rfl) (fun K' hK => ?_)
  try simp only [List.getElem_toArray, List.getElem_cons_succ, List.getElem_cons_zero]
  go_simp
  refine (H7.out _ (Bl.drew kW)).mono ?_
  rintro e w2 ⟨rfl, hw2⟩
  rw [hw2]
  clear hw2 w2
  try dsimp only
  refine hK.out _ _ (Or.inr (cells4 (below_keeps (Bl.drew (Bl.refl W1)) bB (lt_of_block bB))).2.2.2.1) ?_
  clear hK K'
  try simp only [Act.put, List.getElem_toArray, List.getElem_cons_succ, List.getElem_cons_zero, List.setIfInBounds_toArray, List.set_cons_zero, List.set_cons_succ]
  refine M_one (i := 5) (by decide) (by kernel_rfl) (fun K' hK => ?_)
  try simp only [List.getElem_toArray, List.getElem_cons_succ, List.getElem_cons_zero]
  go_simp
  refine hK.out _ _ (Or.inr (cells4 (below_keeps ((Bl.drew (Bl.refl W1)).alloc _) bB (lt_of_block bB))).2.2.2.1) ?_
  clear hK K'
  try simp only [Act.put, List.getElem_toArray, List.getElem_cons_succ, List.getElem_cons_zero, List.setIfInBounds_toArray, List.set_cons_zero, List.set_cons_succ]
  refine M_one (i := 6) (by decide) (by kernel_rfl) (fun K' hK => ?_)
  refine step_append_sl rfl (.tmp 18) (.tmp 22) 23 rfl 3 i3 (.int .i64 0) 1 8 Try.underlying23 hi3 hz30 hz31 hz32 rfl (fun _ => False) _ 0 [] rfl ?_ (fun j => j = W1.drew.heap.size) _ 1 (icells [KD]) rfl ?_ (icells_one _) ?_ ?_ ?_
  · exact SlAt.nil _ _ _ _ _
  · exact rd_newG rfl rfl (by unfold maxLen; omega)
  · unfold maxLen; omega
  · omega
  intro v3 w3 hs3 hc3
  obtain ⟨a3, cap3, rfl⟩ := hs3.shape
  have hq3 : Chg (fun _ => False) W1 w3 := (((Chg.refl _ _).drew).alloc _).trans hc3
  have b3 := hq3.keeps bB (fun e => e)
  refine hK.out _ _ (Or.inr (cells4 b3).2.2.2.1) ?_
  clear hK K'
  try simp only [Act.put, List.getElem_toArray, List.getElem_cons_succ, List.getElem_cons_zero, List.setIfInBounds_toArray, List.set_cons_zero, List.set_cons_succ]
  refine M_one (i := 7) (by decide) (by kernel_rfl) (fun K' hK => ?_)
  try simp only [List.getElem_toArray, List.getElem_cons_succ, List.getElem_cons_zero]
  go_simp
  refine hK.out _ _ (Or.inr (cells4 b3).2.2.2.1) ?_
  clear hK K'
  try simp only [Act.put, List.getElem_toArray, List.getElem_cons_succ, List.getElem_cons_zero, List.setIfInBounds_toArray, List.set_cons_zero, List.set_cons_succ]
  obtain ⟨x0, x1, x2, x3, f0, f1, f2, f3⟩ := cells4 b3
  refine M_one (i := 8) (by decide) (by kernel_rfl) (fun K' hK => ?_)
  try simp only [List.getElem_toArray, List.getElem_cons_succ, List.getElem_cons_zero]
  go_simp
  refine hK.out _ _ (Or.inl rfl) ?_
  clear hK K'
  try simp only [Act.put, List.getElem_toArray, List.getElem_cons_succ, List.getElem_cons_zero, List.setIfInBounds_toArray, List.set_cons_zero, List.set_cons_succ]
  refine M_done (by kernel_rfl) ?_ _
  have z1 : ∀ o, (W1.alloc o).drew.heap.size = W1.heap.size + 1 := fun o => by simp
  have b4 : (w3.setCell ⟨D + 1, 3, none⟩ (.slice a3 1 cap3)).heap[D + 1]? = some (.cells #[.bool false, .slice none 0 0, .slice none 0 0, .slice a3 1 cap3] 25 (0, 0)) := by rw [block_set b3]; rfl
  have c4 : Chg (fun j => j = D + 1) w3 (w3.setCell ⟨D + 1, 3, none⟩ (.slice a3 1 cap3)) := (Chg.refl _ _).setCell _ _ (fun _ => rfl)
  have hDw := HD.out
  have sB := lt_of_block bB
  have kW4 : Bl w (w3.setCell ⟨D + 1, 3, none⟩ (.slice a3 1 cap3)) := (kW.chg hq3 (fun i hi e => e)).chg c4 (fun i hi e => by omega)
  have b04 := c4.keeps (hq3.keeps b0 (fun e => e)) (by omega)
  have hI0 := ((hs3.mono (own2 := fun j => j = W1.heap.size + 1) (fun j hj e => e.elim (fun q => q.elim) (fun q => q.trans (z1 _)))).chg c4 (fun j hj e => by omega)).mono (own2 := fun j => j = W1.heap.size + 1 ∧ j < (w3.setCell ⟨D + 1, 3, none⟩ (.slice a3 1 cap3)).heap.size) (fun j hj e => ⟨e, hj⟩)
  have hM2 : D + 2 ≤ W1.heap.size + 1 := by omega
  generalize w3.setCell ⟨D + 1, 3, none⟩ (.slice a3 1 cap3) = W4 at *
  generalize W1.heap.size + 1 = M2 at *
  clear x0 x1 x2 x3 f0 f1 f2 f3 hS0 hs3 hc3 hq3 b3 c4 z1 sB b0 bB kW hDw H7 hsl7
  go_wp2_with fail
  go_loopw [5, 6, 7, 8] (fun av i _ _ wr => ∃ (k q : Nat) (ka : Option Addr) (kc : Nat) (va : Option Addr) (vc : Nat) (ia : Option Addr) (ic : Nat) (K V I : Nat → Prop), k ≤ n ∧ i = .int .i64 k ∧ av = .int .i64 q ∧ q ≤ xs.length ∧ (rsInner (strOfNums (xs.drop 16)) 0 k).r = ⟨strOfNums (xs.drop q), 0⟩ ∧ QdAt wr (D + 2) (D + 1) false (rsInner (strOfNums (xs.drop 16)) 0 k) K V I ka kc va vc ia ic ∧ wr.heap[D]? = some (.cells #[.bool false, .slice none 0 0, .slice none 0 0, .slice none 0 0] 25 (0, 0)) ∧ Bl w wr) (fun _ i _ _ _ => n - (intOf i).toNat)
  case atStart =>
    refine ⟨0, 20, none, 0, none, 0, a3, cap3, (fun _ => False), (fun _ => False), (fun j => j = M2 ∧ j < W4.heap.size), Nat.zero_le _, rfl, rfl, by omega, by rw [HZ.out], ?_, b04, kW4⟩
    rw [HZ.out]
    exact ⟨b4, ⟨SlAt.nil _ _ _ _ _, SlAt.nil _ _ _ _ _, hI0⟩, ⟨fun _ h => h.elim, fun _ h => h.elim, fun _ h => h.elim, fun _ h => h.elim, fun _ h => h.elim, fun j h => h.1 ▸ hM2⟩, fun _ h => by rcases h with h | h | h <;> first | exact h.elim | exact h.2⟩
  case round =>
    obtain ⟨k, q, ka, kc, va, vc, ia, ic, K, V, I, hk, rfl, rfl, hq, hr, hst, b0r, kwr⟩ := hrel
    clear b04 b4 kW4 hI0 hM2
    have i0 : (0 : Int) ≤ (k : Int) := by omega
    have j0 : (0 : Int) ≤ (q : Int) := by omega
    have j1 : (q : Int) ≤ (xs.length : Int) := by omega
    have hnum := number_any wr own q6 2 q6c ((xs.drop 6).take 2) (H6.out.1.below kwr) H6.out.2.1 (by omega) H6.out.2.2
    rw [hn] at hnum
    have HS6 := Lib.hid hsl6
    clear hn
    go_wp2_with fail
    refine hnum.mono ?_
    rintro e w2 ⟨rfl, hw2⟩
    rw [hw2]
    clear hw2 w2 hnum hsl6
    obtain ⟨x0, x1, x2, x3, -⟩ := cells4 hst.box
    obtain ⟨y0, y1, y2, y3, f0, f1, f2, f3⟩ := cells4 b0r
    have hrun := RSt.inner_run ⟨[], [], [rdNum (strOfNums (xs.drop 16)) 0 4], ⟨rawS (strOfNums (xs.drop 16)) 0 4, rawE (strOfNums (xs.drop 16)) 0 4⟩⟩ k
    have he : (rsInner (strOfNums (xs.drop 16)) 0 k).r.e = 0 := by rw [hr]
    have hstep : Hid (rsInner (strOfNums (xs.drop 16)) 0 (k + 1) = (rsInner (strOfNums (xs.drop 16)) 0 k).innerStep) := RSt.run_step he
    have hkl : (rsInner (strOfNums (xs.drop 16)) 0 k).keys.length ≤ k := Nat.le_trans hrun.2.1 (by simp)
    have hil : (rsInner (strOfNums (xs.drop 16)) 0 k).kids.length ≤ 1 + k := hrun.2.2.2
    have HRS1 : Hid (∀ m, k + 1 ≤ m → (rsInner (strOfNums (xs.drop 16)) 0 (k + 1)).r.e ≠ 0 → rsInner (strOfNums (xs.drop 16)) 0 m = rsInner (strOfNums (xs.drop 16)) 0 (k + 1)) := fun m hm hne => RSt.run_stays hne m hm
    have HTn : Hid (k < n → (rsInner (strOfNums (xs.drop 16)) 0 k).innerStep.r.e ≠ 0 → T.r.e ≠ 0) := fun hlt hne => by
      rw [HT.out, HRS1.out n hlt (by rw [hstep.out]; exact hne), hstep.out]
      exact hne
    clear HRS1 hrun
    have hat := inner_at HB.out hq hr
    have HA := Lib.hid hat
    have HK : Hid (k = n → T = rsInner (strOfNums (xs.drop 16)) 0 k) := fun e => by rw [e]; exact HT.out
    generalize rsInner (strOfNums (xs.drop 16)) 0 k = t at *
    have HKL := Lib.hid (And.intro hkl hil)
    clear hkl hil hat hr
    by_cases hlt : k < n
    · have i1 : (k : Int) < (n : Int) := by omega
      by_cases h9 : xs.length < q + 2
      · have h9i : (xs.length : Int) < (q : Int) + 2 := by omega
        have hbad := HTn.out hlt (HA.out.1 h9)
        clear h9
        go_wp2_with fail
        have hc4 := chg4 (Bl.refl wr) D (.bool false) (.slice ka t.keys.length kc) (.slice va t.values.length vc) (.slice ia t.kids.length ic)
        refine bodyPost_ret (v := .tuple #[.agg #[.bool false, .slice ka t.keys.length kc, .slice va t.values.length vc, .slice ia t.kids.length ic], .bool false]) (by simp [results, Try.results60, go_sem, *]) rfl ?_
        exact ⟨_, _, _, rfl, qd_fin HD.out hst kwr hc4, Or.inr ⟨rfl, hbad⟩⟩
      · have h9i : ¬ (xs.length : Int) < (q : Int) + 2 := by omega
        have hq2 : q + 2 ≤ xs.length := by omega
        obtain ⟨kn, hkn⟩ := Int.eq_ofNat_of_zero_le (HB.out xs[q] (List.getElem_mem (by omega))).1
        have hk1 : (kn : Int) ≤ 255 := by have := (HB.out xs[q] (List.getElem_mem (by omega))).2; omega
        have hk0 : (0 : Int) ≤ (kn : Int) := by omega
        have c1 := HC.out _ kwr q (by omega)
        rw [hkn] at c1
        have HA2 := Lib.hid (HA.out.2 hq2 kn hkn)
        clear hkn
        have j2 : (q : Int) < (xs.length : Int) := by omega
        by_cases h14 : xs.length < q + 1 + kn + 4
        · have h14i : (xs.length : Int) < (q : Int) + 1 + (kn : Int) + 4 := by omega
          have hbad := HTn.out hlt (HA2.out.1 h14)
          clear h9 h14
          go_wp2_with fail
          have hc4 := chg4 (Bl.refl wr) D (.bool false) (.slice ka t.keys.length kc) (.slice va t.values.length vc) (.slice ia t.kids.length ic)
          refine bodyPost_ret (v := .tuple #[.agg #[.bool false, .slice ka t.keys.length kc, .slice va t.values.length vc, .slice ia t.kids.length ic], .bool false]) (by simp [results, Try.results60, go_sem, *]) rfl ?_
          exact ⟨_, _, _, rfl, qd_fin HD.out hst kwr hc4, Or.inr ⟨rfl, hbad⟩⟩
        · have h14i : ¬ (xs.length : Int) < (q : Int) + 1 + (kn : Int) + 4 := by omega
          have h14n : q + 1 + kn + 4 ≤ xs.length := by omega
          clear h9 h14
          go_wp2_with fail
          obtain ⟨ax, cx, hslA, hrA⟩ := slice_mid HX.out (q + 1) kn (by omega) ((q : Int) + 1) ((q : Int) + 1 + (kn : Int)) (by omega) (by omega)
          obtain ⟨ay, cy, hslB, hrB⟩ := slice_mid HX.out (q + 1 + kn) 4 (by omega) ((q : Int) + 1 + (kn : Int)) ((q : Int) + 1 + (kn : Int) + 4) (by omega) (by omega)
          have hEA : ((xs.drop (q + 1)).take kn).length = kn := by rw [List.length_take, List.length_drop]; omega
          have HCA : Hid (∀ W, Bl w W → (convert 36 9 (.slice ax kn cx)).run Try.prog W = .ok (.string (strOfNums ((xs.drop (q + 1)).take kn))) W) := fun W k => conv_str W _ _ _ (hrA.below k)
          have HCB : Hid (∀ W, Bl w W → Calls Try.prog 82 #[.slice ay 4 cy] W fun e w' => e = .returned (.int .i64 (numTo (strOfNums ((xs.drop (q + 1 + kn)).take 4)) 4)) ∧ w' = W) := fun W k => number_any W own ay 4 cy _ (hrB.below k) (by rw [List.length_take, List.length_drop]; omega) (by omega) (fun x hx => HB.out x (List.mem_of_mem_drop (List.mem_of_mem_take hx)))
          have HA3 := Lib.hid (HA2.out.2 h14n)
          have HSB := Lib.hid hslB
          clear hrA hrB hEA hslB HA2 c1 h14n hq2 HC H6 HX HTn HK
          generalize strOfNums ((xs.drop (q + 1)).take kn) = TA at *
          generalize numTo (strOfNums ((xs.drop (q + 1 + kn)).take 4)) 4 = KB at *
          have wq1 : IntKind.i64.wrap ((q : Int) + 1) = (q : Int) + 1 := IntWalk.i64_in _ ⟨by omega, by omega⟩
          have wqk : IntKind.i64.wrap ((q : Int) + 1 + (kn : Int)) = (q : Int) + 1 + (kn : Int) := IntWalk.i64_in _ ⟨by omega, by omega⟩
          have wqv : IntKind.i64.wrap ((q : Int) + 1 + (kn : Int) + 4) = (q : Int) + 1 + (kn : Int) + 4 := IntWalk.i64_in _ ⟨by omega, by omega⟩
          have hcvA := HCA.out _ (Bl.drew kwr)
          refine M_region (S := fun w' => w'.cell? ⟨D + 1, 1, none⟩ = some (.slice ka t.keys.length kc)) (z := 14) (by kernel_rfl) ?_
          have hS0 : (fun w' : World => w'.cell? ⟨D + 1, 1, none⟩ = some (.slice ka t.keys.length kc)) wr.drew := (cells4 (below_keeps (Bl.drew (Bl.refl wr)) hst.box (lt_of_block hst.box))).2.1
          refine M_take (i := 0) (by decide) (by kernel_rfl) (by kernel_rfl) (by kernel_rfl) (by kernel_rfl) (fun _ _ _ h => h) hS0 (by rfl) (v := ?_) ?_ ?_
          rotate_left
          · intro w' hSw
            have hs1 : w'.cell? ⟨D + 1, 1, none⟩ = some (.slice ka t.keys.length kc) := hSw
            go_simp
            try with_reducible rfl
          try simp only [Act.put, List.getElem_toArray, List.getElem_cons_succ, List.getElem_cons_zero, List.setIfInBounds_toArray, List.set_cons_zero, List.set_cons_succ]
          refine M_take (i := 1) (by decide) (by kernel_rfl) (by kernel_rfl) (by kernel_rfl) (by kernel_rfl) (fun _ _ _ h => h) hS0 (by rfl) (v := ?_) ?_ ?_
          rotate_left
          · intro w' hSw
            have hs1 : w'.cell? ⟨D + 1, 1, none⟩ = some (.slice ka t.keys.length kc) := hSw
            go_simp
            try with_reducible rfl
          try simp only [Act.put, List.getElem_toArray, List.getElem_cons_succ, List.getElem_cons_zero, List.setIfInBounds_toArray, List.set_cons_zero, List.set_cons_succ]
          refine M_take (i := 2) (by decide) (by kernel_rfl) (by kernel_rfl) (by kernel_rfl) (by kernel_rfl) (fun _ _ _ h => h) hS0 (by rfl) (v := ?_) ?_ ?_
          rotate_left
          · intro w' hSw
            have hs1 : w'.cell? ⟨D + 1, 1, none⟩ = some (.slice ka t.keys.length kc) := hSw
            go_simp
            try with_reducible rfl
          try simp only [Act.put, List.getElem_toArray, List.getElem_cons_succ, List.getElem_cons_zero, List.setIfInBounds_toArray, List.set_cons_zero, List.set_cons_succ]
          refine M_take (i := 3) (by decide) (by kernel_rfl) (by kernel_rfl) (by kernel_rfl) (by kernel_rfl) (fun _ _ _ h => h) hS0 (by rfl) (v := ?_) ?_ ?_
          rotate_left
          · intro w' hSw
            have hs1 : w'.cell? ⟨D + 1, 1, none⟩ = some (.slice ka t.keys.length kc) := hSw
            go_simp
            try with_reducible rfl
          try simp only [Act.put, List.getElem_toArray, List.getElem_cons_succ, List.getElem_cons_zero, List.setIfInBounds_toArray, List.set_cons_zero, List.set_cons_succ]
          refine M_take (i := 4) (by decide) (by kernel_rfl) (by kernel_rfl) (by kernel_rfl) (by kernel_rfl) (fun _ _ _ h => h) hS0 (by rfl) (v := ?_) ?_ ?_
          rotate_left
          · intro w' hSw
            have hs1 : w'.cell? ⟨D + 1, 1, none⟩ = some (.slice ka t.keys.length kc) := hSw
            go_simp
            try with_reducible rfl
          try simp only [Act.put, List.getElem_toArray, List.getElem_cons_succ, List.getElem_cons_zero, List.setIfInBounds_toArray, List.set_cons_zero, List.set_cons_succ]
          refine M_take (i := 5) (by decide) (by kernel_rfl) (by kernel_rfl) (by kernel_rfl) (by kernel_rfl) (fun _ _ _ h => h) hS0 (by rfl) (v := ?_) ?_ ?_
          rotate_left
          · intro w' hSw
            have hs1 : w'.cell? ⟨D + 1, 1, none⟩ = some (.slice ka t.keys.length kc) := hSw
            go_simp
            try with_reducible rfl
          try simp only [Act.put, List.getElem_toArray, List.getElem_cons_succ, List.getElem_cons_zero, List.setIfInBounds_toArray, List.set_cons_zero, List.set_cons_succ]
          refine M_take (i := 6) (by decide) (by kernel_rfl) (by kernel_rfl) (by kernel_rfl) (by kernel_rfl) (fun _ _ _ h => h) hS0 (by rfl) (v := ?_) ?_ ?_
          rotate_left
          · intro w' hSw
            have hs1 : w'.cell? ⟨D + 1, 1, none⟩ = some (.slice ka t.keys.length kc) := hSw
            go_simp
            try with_reducible rfl
          try simp only [Act.put, List.getElem_toArray, List.getElem_cons_succ, List.getElem_cons_zero, List.setIfInBounds_toArray, List.set_cons_zero, List.set_cons_succ]
          refine M_take (i := 7) (by decide) (by kernel_rfl) (by kernel_rfl) (by kernel_rfl) (by kernel_rfl) (fun _ _ _ h => h) hS0 (by rfl) (v := ?_) ?_ ?_
          rotate_left
          · intro w' hSw
            have hs1 : w'.cell? ⟨D + 1, 1, none⟩ = some (.slice ka t.keys.length kc) := hSw
            go_simp
            try with_reducible rfl
          try simp only [Act.put, List.getElem_toArray, List.getElem_cons_succ, List.getElem_cons_zero, List.setIfInBounds_toArray, List.set_cons_zero, List.set_cons_succ]
          refine M_take (i := 8) (by decide) (by kernel_rfl) (by kernel_rfl) (by kernel_rfl) (by kernel_rfl) (fun _ _ _ h => h) hS0 (by rfl) (v := ?_) ?_ ?_
          rotate_left
          · intro w' hSw
            have hs1 : w'.cell? ⟨D + 1, 1, none⟩ = some (.slice ka t.keys.length kc) := hSw
            go_simp
            try with_reducible rfl
          try simp only [Act.put, List.getElem_toArray, List.getElem_cons_succ, List.getElem_cons_zero, List.setIfInBounds_toArray, List.set_cons_zero, List.set_cons_succ]
          refine M_one (i := 9) (by decide) (by kernel_rfl) (fun K' hK => ?_)
          try simp only [List.getElem_toArray, List.getElem_cons_succ, List.getElem_cons_zero]
          go_simp
          refine hK.out _ _ (Or.inr (cells4 (below_keeps (Bl.drew (Bl.refl wr)) hst.box (lt_of_block hst.box))).2.1) ?_
          clear hK K'
          try simp only [Act.put, List.getElem_toArray, List.getElem_cons_succ, List.getElem_cons_zero, List.setIfInBounds_toArray, List.set_cons_zero, List.set_cons_succ]
          refine M_one (i := 10) (by decide) (by kernel_rfl) (fun K' hK => ?_)
          try simp only [List.getElem_toArray, List.getElem_cons_succ, List.getElem_cons_zero]
          go_simp
          refine hK.out _ _ (Or.inr (cells4 (below_keeps (Bl.drew (Bl.refl wr)) hst.box (lt_of_block hst.box))).2.1) ?_
          clear hK K'
          try simp only [Act.put, List.getElem_toArray, List.getElem_cons_succ, List.getElem_cons_zero, List.setIfInBounds_toArray, List.set_cons_zero, List.set_cons_succ]
          refine M_one (i := 11) (by decide) (by kernel_rfl) (fun K' hK => ?_)
          try simp only [List.getElem_toArray, List.getElem_cons_succ, List.getElem_cons_zero]
          go_simp
          refine hK.out _ _ (Or.inr (cells4 (below_keeps ((Bl.drew (Bl.refl wr)).alloc _) hst.box (lt_of_block hst.box))).2.1) ?_
          clear hK K'
          try simp only [Act.put, List.getElem_toArray, List.getElem_cons_succ, List.getElem_cons_zero, List.setIfInBounds_toArray, List.set_cons_zero, List.set_cons_succ]
          refine M_one (i := 12) (by decide) (by kernel_rfl) (fun K' hK => ?_)
          refine step_append_sl rfl (.tmp 109) (.tmp 119) 22 rfl 9 i9 (.string ⟨#[]⟩) 1 16 Try.underlying22 hi9 hz90 hz91 hz92 rfl K _ t.keys.length (tcells t.keys) rfl ?_ (fun j => j = wr.drew.heap.size) _ 1 (tcells [TA]) rfl ?_ (tcells_one _) ?_ ?_ ?_
          · exact (hst.sl.keys.below (Bl.drew (Bl.refl wr))).below ((Bl.refl _).alloc _)
          · exact rd_newG rfl rfl (by unfold maxLen; omega)
          · have := HKL.out; have := HN.out; unfold maxLen; omega
          · have := HKL.out; have := HN.out; omega
          intro v6 w6 hs6 hc6
          obtain ⟨a6, cap6, rfl⟩ := hs6.shape
          have hq6 : Chg K wr w6 := (((Chg.refl _ _).drew).alloc _).trans hc6
          have b6 := hq6.keeps hst.box (fun e => by have := hst.ap.k _ e; omega)
          refine hK.out _ _ (Or.inr (cells4 b6).2.1) ?_
          clear hK K'
          try simp only [Act.put, List.getElem_toArray, List.getElem_cons_succ, List.getElem_cons_zero, List.setIfInBounds_toArray, List.set_cons_zero, List.set_cons_succ]
          refine M_one (i := 13) (by decide) (by kernel_rfl) (fun K' hK => ?_)
          try simp only [List.getElem_toArray, List.getElem_cons_succ, List.getElem_cons_zero]
          go_simp
          refine hK.out _ _ (Or.inr (cells4 b6).2.1) ?_
          clear hK K'
          try simp only [Act.put, List.getElem_toArray, List.getElem_cons_succ, List.getElem_cons_zero, List.setIfInBounds_toArray, List.set_cons_zero, List.set_cons_succ]
          obtain ⟨x0, x1, x2, x3, f0, f1, f2, f3⟩ := cells4 b6
          refine M_one (i := 14) (by decide) (by kernel_rfl) (fun K' hK => ?_)
          try simp only [List.getElem_toArray, List.getElem_cons_succ, List.getElem_cons_zero]
          go_simp
          refine hK.out _ _ (Or.inl rfl) ?_
          clear hK K'
          try simp only [Act.put, List.getElem_toArray, List.getElem_cons_succ, List.getElem_cons_zero, List.setIfInBounds_toArray, List.set_cons_zero, List.set_cons_succ]
          refine M_done (by kernel_rfl) ?_ _
          have b7 : (w6.setCell ⟨D + 1, 1, none⟩ (.slice a6 (t.keys.length + 1) cap6)).heap[D + 1]? = some (.cells #[.bool false, .slice a6 (t.keys.length + 1) cap6, .slice va t.values.length vc, .slice ia t.kids.length ic] 25 (0, 0)) := by rw [block_set b6]; rfl
          have c7 : Chg (fun j => j = D + 1) w6 (w6.setCell ⟨D + 1, 1, none⟩ (.slice a6 (t.keys.length + 1) cap6)) := (Chg.refl _ _).setCell _ _ (fun _ => rfl)
          generalize w6.setCell ⟨D + 1, 1, none⟩ (.slice a6 (t.keys.length + 1) cap6) = w7 at *
          clear x0 x1 x2 x3 f0 f1 f2 f3 y0 y1 y2 y3 hS0 hcvA hslA
          obtain ⟨x0, x1, x2, x3, f0, f1, f2, f3⟩ := cells4 b7
          have k6 : Bl w w6 := kwr.chg hq6 (fun i hi e => by have h1 := hst.ap.k i e; have h2 := HD.out; omega)
          have k7 : Bl w w7 := k6.chg c7 (fun i hi e => by have h2 := HD.out; omega)
          have hi7 := (hst.sl.kids.chg hq6 (fun j hj e => hst.ap.ki j e hj)).chg c7 (fun j hj e => by have h1 := hst.ap.i j hj; omega)
          go_wp2_with fail
          have hslB := HSB.out
          refine M_region (S := fun w' => w'.cell? ⟨D + 1, 3, none⟩ = some (.slice ia t.kids.length ic)) (z := 17) (by kernel_rfl) ?_
          have hS0 : (fun w' : World => w'.cell? ⟨D + 1, 3, none⟩ = some (.slice ia t.kids.length ic)) w7.drew := (cells4 (below_keeps (Bl.drew (Bl.refl w7)) b7 (lt_of_block b7))).2.2.2.1
          refine M_take (i := 0) (by decide) (by kernel_rfl) (by kernel_rfl) (by kernel_rfl) (by kernel_rfl) (fun _ _ _ h => h) hS0 (by rfl) (v := ?_) ?_ ?_
          rotate_left
          · intro w' hSw
            have hs1 : w'.cell? ⟨D + 1, 3, none⟩ = some (.slice ia t.kids.length ic) := hSw
            go_simp
            try with_reducible rfl
          try simp only [Act.put, List.getElem_toArray, List.getElem_cons_succ, List.getElem_cons_zero, List.setIfInBounds_toArray, List.set_cons_zero, List.set_cons_succ]
          refine M_take (i := 1) (by decide) (by kernel_rfl) (by kernel_rfl) (by kernel_rfl) (by kernel_rfl) (fun _ _ _ h => h) hS0 (by rfl) (v := ?_) ?_ ?_
          rotate_left
          · intro w' hSw
            have hs1 : w'.cell? ⟨D + 1, 3, none⟩ = some (.slice ia t.kids.length ic) := hSw
            go_simp
            try with_reducible rfl
          try simp only [Act.put, List.getElem_toArray, List.getElem_cons_succ, List.getElem_cons_zero, List.setIfInBounds_toArray, List.set_cons_zero, List.set_cons_succ]
          refine M_take (i := 2) (by decide) (by kernel_rfl) (by kernel_rfl) (by kernel_rfl) (by kernel_rfl) (fun _ _ _ h => h) hS0 (by rfl) (v := ?_) ?_ ?_
          rotate_left
          · intro w' hSw
            have hs1 : w'.cell? ⟨D + 1, 3, none⟩ = some (.slice ia t.kids.length ic) := hSw
            go_simp
            try with_reducible rfl
          try simp only [Act.put, List.getElem_toArray, List.getElem_cons_succ, List.getElem_cons_zero, List.setIfInBounds_toArray, List.set_cons_zero, List.set_cons_succ]
          refine M_take (i := 3) (by decide) (by kernel_rfl) (by kernel_rfl) (by kernel_rfl) (by kernel_rfl) (fun _ _ _ h => h) hS0 (by rfl) (v := ?_) ?_ ?_
          rotate_left
          · intro w' hSw
            have hs1 : w'.cell? ⟨D + 1, 3, none⟩ = some (.slice ia t.kids.length ic) := hSw
            go_simp
            try with_reducible rfl
          try simp only [Act.put, List.getElem_toArray, List.getElem_cons_succ, List.getElem_cons_zero, List.setIfInBounds_toArray, List.set_cons_zero, List.set_cons_succ]
          refine M_take (i := 4) (by decide) (by kernel_rfl) (by kernel_rfl) (by kernel_rfl) (by kernel_rfl) (fun _ _ _ h => h) hS0 (by rfl) (v := ?_) ?_ ?_
          rotate_left
          · intro w' hSw
            have hs1 : w'.cell? ⟨D + 1, 3, none⟩ = some (.slice ia t.kids.length ic) := hSw
            go_simp
            try with_reducible rfl
          try simp only [Act.put, List.getElem_toArray, List.getElem_cons_succ, List.getElem_cons_zero, List.setIfInBounds_toArray, List.set_cons_zero, List.set_cons_succ]
          refine M_take (i := 5) (by decide) (by kernel_rfl) (by kernel_rfl) (by kernel_rfl) (by kernel_rfl) (fun _ _ _ h => h) hS0 (by rfl) (v := ?_) ?_ ?_
          rotate_left
          · intro w' hSw
            have hs1 : w'.cell? ⟨D + 1, 3, none⟩ = some (.slice ia t.kids.length ic) := hSw
            go_simp
            try with_reducible rfl
          try simp only [Act.put, List.getElem_toArray, List.getElem_cons_succ, List.getElem_cons_zero, List.setIfInBounds_toArray, List.set_cons_zero, List.set_cons_succ]
          refine M_take (i := 6) (by decide) (by kernel_rfl) (by kernel_rfl) (by kernel_rfl) (by kernel_rfl) (fun _ _ _ h => h) hS0 (by rfl) (v := ?_) ?_ ?_
          rotate_left
          · intro w' hSw
            have hs1 : w'.cell? ⟨D + 1, 3, none⟩ = some (.slice ia t.kids.length ic) := hSw
            go_simp
            try with_reducible rfl
          try simp only [Act.put, List.getElem_toArray, List.getElem_cons_succ, List.getElem_cons_zero, List.setIfInBounds_toArray, List.set_cons_zero, List.set_cons_succ]
          refine M_take (i := 7) (by decide) (by kernel_rfl) (by kernel_rfl) (by kernel_rfl) (by kernel_rfl) (fun _ _ _ h => h) hS0 (by rfl) (v := ?_) ?_ ?_
          rotate_left
          · intro w' hSw
            have hs1 : w'.cell? ⟨D + 1, 3, none⟩ = some (.slice ia t.kids.length ic) := hSw
            go_simp
            try with_reducible rfl
          try simp only [Act.put, List.getElem_toArray, List.getElem_cons_succ, List.getElem_cons_zero, List.setIfInBounds_toArray, List.set_cons_zero, List.set_cons_succ]
          refine M_take (i := 8) (by decide) (by kernel_rfl) (by kernel_rfl) (by kernel_rfl) (by kernel_rfl) (fun _ _ _ h => h) hS0 (by rfl) (v := ?_) ?_ ?_
          rotate_left
          · intro w' hSw
            have hs1 : w'.cell? ⟨D + 1, 3, none⟩ = some (.slice ia t.kids.length ic) := hSw
            go_simp
            try with_reducible rfl
          try simp only [Act.put, List.getElem_toArray, List.getElem_cons_succ, List.getElem_cons_zero, List.setIfInBounds_toArray, List.set_cons_zero, List.set_cons_succ]
          refine M_take (i := 9) (by decide) (by kernel_rfl) (by kernel_rfl) (by kernel_rfl) (by kernel_rfl) (fun _ _ _ h => h) hS0 (by rfl) (v := ?_) ?_ ?_
          rotate_left
          · intro w' hSw
            have hs1 : w'.cell? ⟨D + 1, 3, none⟩ = some (.slice ia t.kids.length ic) := hSw
            go_simp
            try with_reducible rfl
          try simp only [Act.put, List.getElem_toArray, List.getElem_cons_succ, List.getElem_cons_zero, List.setIfInBounds_toArray, List.set_cons_zero, List.set_cons_succ]
          refine M_take (i := 10) (by decide) (by kernel_rfl) (by kernel_rfl) (by kernel_rfl) (by kernel_rfl) (fun _ _ _ h => h) hS0 (by rfl) (v := ?_) ?_ ?_
          rotate_left
          · intro w' hSw
            have hs1 : w'.cell? ⟨D + 1, 3, none⟩ = some (.slice ia t.kids.length ic) := hSw
            go_simp
            try with_reducible rfl
          try simp only [Act.put, List.getElem_toArray, List.getElem_cons_succ, List.getElem_cons_zero, List.setIfInBounds_toArray, List.set_cons_zero, List.set_cons_succ]
          refine M_take (i := 11) (by decide) (by kernel_rfl) (by kernel_rfl) (by kernel_rfl) (by kernel_rfl) (fun _ _ _ h => h) hS0 (by rfl) (v := ?_) ?_ ?_
          rotate_left
          · intro w' hSw
            have hs1 : w'.cell? ⟨D + 1, 3, none⟩ = some (.slice ia t.kids.length ic) := hSw
            go_simp
            try with_reducible rfl
          try simp only [Act.put, List.getElem_toArray, List.getElem_cons_succ, List.getElem_cons_zero, List.setIfInBounds_toArray, List.set_cons_zero, List.set_cons_succ]
          refine M_one (i := 12) (by decide) (by kernel_rfl) (fun K' hK => ?_)
          try simp only [List.getElem_toArray, List.getElem_cons_succ, List.getElem_cons_zero]
          go_simp
          refine hK.out _ _ (Or.inr (cells4 (below_keeps (Bl.drew (Bl.refl w7)) b7 (lt_of_block b7))).2.2.2.1) ?_
          clear hK K'
          try simp only [Act.put, List.getElem_toArray, List.getElem_cons_succ, List.getElem_cons_zero, List.setIfInBounds_toArray, List.set_cons_zero, List.set_cons_succ]
          refine M_one (i := 13) (by decide) (by kernel_rfl) (fun K' hK => ?_)
          try simp only [List.getElem_toArray, List.getElem_cons_succ, List.getElem_cons_zero]
          go_simp
          refine (HCB.out _ (Bl.drew k7)).mono ?_
          rintro e w2 ⟨rfl, hw2⟩
          rw [hw2]
          clear hw2 w2
          try dsimp only
          refine hK.out _ _ (Or.inr (cells4 (below_keeps (Bl.drew (Bl.refl w7)) b7 (lt_of_block b7))).2.2.2.1) ?_
          clear hK K'
          try simp only [Act.put, List.getElem_toArray, List.getElem_cons_succ, List.getElem_cons_zero, List.setIfInBounds_toArray, List.set_cons_zero, List.set_cons_succ]
          refine M_one (i := 14) (by decide) (by kernel_rfl) (fun K' hK => ?_)
          try simp only [List.getElem_toArray, List.getElem_cons_succ, List.getElem_cons_zero]
          go_simp
          refine hK.out _ _ (Or.inr (cells4 (below_keeps ((Bl.drew (Bl.refl w7)).alloc _) b7 (lt_of_block b7))).2.2.2.1) ?_
          clear hK K'
          try simp only [Act.put, List.getElem_toArray, List.getElem_cons_succ, List.getElem_cons_zero, List.setIfInBounds_toArray, List.set_cons_zero, List.set_cons_succ]
          refine M_one (i := 15) (by decide) (by kernel_rfl) (fun K' hK => ?_)
          refine step_append_sl rfl (.tmp 123) (.tmp 136) 23 rfl 3 i3 (.int .i64 0) 1 8 Try.underlying23 hi3 hz30 hz31 hz32 rfl I _ t.kids.length (icells t.kids) rfl ?_ (fun j => j = w7.drew.heap.size) _ 1 (icells [KB]) rfl ?_ (icells_one _) ?_ ?_ ?_
          · exact (hi7.below (Bl.drew (Bl.refl w7))).below ((Bl.refl _).alloc _)
          · exact rd_newG rfl rfl (by unfold maxLen; omega)
          · have := HKL.out; have := HN.out; unfold maxLen; omega
          · have := HKL.out; have := HN.out; omega
          intro v9 w9 hs9 hc9
          obtain ⟨a9, cap9, rfl⟩ := hs9.shape
          have hq9 : Chg I w7 w9 := (((Chg.refl _ _).drew).alloc _).trans hc9
          have b9 := hq9.keeps b7 (fun e => by have := hst.ap.i _ e; omega)
          refine hK.out _ _ (Or.inr (cells4 b9).2.2.2.1) ?_
          clear hK K'
          try simp only [Act.put, List.getElem_toArray, List.getElem_cons_succ, List.getElem_cons_zero, List.setIfInBounds_toArray, List.set_cons_zero, List.set_cons_succ]
          refine M_one (i := 16) (by decide) (by kernel_rfl) (fun K' hK => ?_)
          try simp only [List.getElem_toArray, List.getElem_cons_succ, List.getElem_cons_zero]
          go_simp
          refine hK.out _ _ (Or.inr (cells4 b9).2.2.2.1) ?_
          clear hK K'
          try simp only [Act.put, List.getElem_toArray, List.getElem_cons_succ, List.getElem_cons_zero, List.setIfInBounds_toArray, List.set_cons_zero, List.set_cons_succ]
          obtain ⟨x0, x1, x2, x3, f0, f1, f2, f3⟩ := cells4 b9
          refine M_one (i := 17) (by decide) (by kernel_rfl) (fun K' hK => ?_)
          try simp only [List.getElem_toArray, List.getElem_cons_succ, List.getElem_cons_zero]
          go_simp
          refine hK.out _ _ (Or.inl rfl) ?_
          clear hK K'
          try simp only [Act.put, List.getElem_toArray, List.getElem_cons_succ, List.getElem_cons_zero, List.setIfInBounds_toArray, List.set_cons_zero, List.set_cons_succ]
          refine M_done (by kernel_rfl) ?_ _
          have b10 : (w9.setCell ⟨D + 1, 3, none⟩ (.slice a9 (t.kids.length + 1) cap9)).heap[D + 1]? = some (.cells #[.bool false, .slice a6 (t.keys.length + 1) cap6, .slice va t.values.length vc, .slice a9 (t.kids.length + 1) cap9] 25 (0, 0)) := by rw [block_set b9]; rfl
          have c10 : Chg (fun j => j = D + 1) w9 (w9.setCell ⟨D + 1, 3, none⟩ (.slice a9 (t.kids.length + 1) cap9)) := (Chg.refl _ _).setCell _ _ (fun _ => rfl)
          generalize w9.setCell ⟨D + 1, 3, none⟩ (.slice a9 (t.kids.length + 1) cap9) = w10 at *
          clear x0 x1 x2 x3 f0 f1 f2 f3 hS0 hslB
          go_wp2_with fail
          go_roundw
          case measure => simp [intOf]; omega
          case rel =>
            have z5 : ∀ o, (wr.alloc o).drew.heap.size = wr.heap.size + 1 := fun o => by simp
            have z8 : ∀ o, (w7.alloc o).drew.heap.size = w7.heap.size + 1 := fun o => by simp
            have s2 := hq6.size
            have s3 := c7.size
            have s5 := hq9.size
            have s6 := c10.size
            have hDw := HD.out
            have sB := lt_of_block hst.box
            have ap := hst.ap
            have tp := hst.top
            have hs6' := hs6.mono (own2 := fun j => (K j ∨ j = wr.heap.size + 1) ∧ j < w6.heap.size) (fun j hj e => ⟨e.imp id (fun q => q.trans (z5 _)), hj⟩)
            have hs9' := hs9.mono (own2 := fun j => (I j ∨ j = w7.heap.size + 1) ∧ j < w9.heap.size) (fun j hj e => ⟨e.imp id (fun q => q.trans (z8 _)), hj⟩)
            have mK : ∀ j, ((K j ∨ j = wr.heap.size + 1) ∧ j < w6.heap.size) → D + 2 ≤ j := fun j hj => by
              rcases hj.1 with e | e
              · exact ap.k j e
              · omega
            have mI : ∀ j, ((I j ∨ j = w7.heap.size + 1) ∧ j < w9.heap.size) → D + 2 ≤ j := fun j hj => by
              rcases hj.1 with e | e
              · exact ap.i j e
              · omega
            have nKI : ∀ j, ((K j ∨ j = wr.heap.size + 1) ∧ j < w6.heap.size) → ¬ I j := fun j hj hv => by
              rcases hj.1 with e | e
              · exact ap.ki j e hv
              · have := tp j (Or.inr (Or.inr hv)); omega
            have mV : ∀ j, V j → D + 2 ≤ j := ap.v
            have gK := ((hs6'.chg c7 (fun j hj e => by have := mK j hj; omega)).chg hq9 nKI).chg c10 (fun j hj e => by have := mK j hj; omega)
            have gI := hs9'.chg c10 (fun j hj e => by have := mI j hj; omega)
            have gV := (((hst.sl.values.chg hq6 (fun j hj e => ap.kv j e hj)).chg c7 (fun j hj e => by have := mV j hj; omega)).chg hq9 (fun j hj e => ap.vi j hj e)).chg c10 (fun j hj e => by have := mV j hj; omega)
            have eS := HA3.out
            have eK : tcells (t.keys ++ [TA]) = tcells t.keys ++ tcells [TA] := List.map_append
            have eI : icells (t.kids ++ [KB]) = icells t.kids ++ icells [KB] := List.map_append
            have hq' : q + 1 + kn + 4 ≤ xs.length := by omega
            refine ⟨k + 1, q + 1 + kn + 4, a6, cap6, va, vc, a9, cap9, (fun j => (K j ∨ j = wr.heap.size + 1) ∧ j < w6.heap.size), V, (fun j => (I j ∨ j = w7.heap.size + 1) ∧ j < w9.heap.size), by omega, by go_num, by go_num, hq', by rw [hstep.out, eS], ?_, ?_, ?_⟩
            · rw [hstep.out, eS]
              refine ⟨?_, ⟨?_, gV, ?_⟩, ⟨?_, ?_, ?_, mK, mV, mI⟩, ?_⟩
              · dsimp only
                rw [List.length_append, List.length_append]
                exact b10
              · dsimp only
                rw [List.length_append, eK]
                exact gK
              · dsimp only
                rw [List.length_append, eI]
                exact gI
              · intro j hj hv
                rcases hj.1 with e | e
                · exact ap.kv j e hv
                · have := tp j (Or.inr (Or.inl hv)); omega
              · intro j hj hv
                rcases hv.1 with e | e
                · exact nKI j hj e
                · have := hj.2; omega
              · intro j hj hv
                rcases hv.1 with e | e
                · exact ap.vi j hj e
                · have := tp j (Or.inr (Or.inl hj)); omega
              · intro j hj
                rcases hj with h1 | h1 | h1
                · have := h1.2; omega
                · have := tp j (Or.inr (Or.inl h1)); omega
                · have := h1.2; omega
            · exact c10.keeps (hq9.keeps (c7.keeps (hq6.keeps b0r (fun e => by have := ap.k _ e; omega)) (by omega)) (fun e => by have := ap.i _ e; omega)) (by omega)
            · exact (k7.chg hq9 (fun i hi e => by have := ap.i i e; omega)).chg c10 (fun i hi e => by omega)
    · have HTt : Hid (T = t) := HK.out (by omega)
      obtain rfl : k = n := by omega
      go_wp2_with fail
      have hc4 := chg4 (Bl.refl wr) D (.bool false) (.slice ka t.keys.length kc) (.slice va t.values.length vc) (.slice ia t.kids.length ic)
      refine bodyPost_ret (v := .tuple #[.agg #[.bool false, .slice ka t.keys.length kc, .slice va t.values.length vc, .slice ia t.kids.length ic], .bool true]) (by simp [results, Try.results60, go_sem, *]) rfl ?_
      exact ⟨_, _, _, rfl, qd_fin HD.out hst kwr hc4, Or.inl ⟨rfl, by rw [HTt.out]; exact he, by rw [HTt.out]⟩⟩
end Go.Proofs.Ytjdkalimaldofaa
