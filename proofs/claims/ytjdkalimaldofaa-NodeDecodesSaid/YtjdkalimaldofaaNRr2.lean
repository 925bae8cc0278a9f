/-
  The document's read at a leaf: the walk.
-/
import Derived.Test.YtjdkalimaldofaaNRr1
import Derived.Test.YtjdkalimaldofaaNDec
namespace Go.Proofs.Ytjdkalimaldofaa
open Go.RowKit
set_option linter.unusedSimpArgs false
set_option linter.unusedVariables false
/-- a node that is being gathered, in a box of its own -/
structure QdAt (w : World) (M B : Nat) (lf : Bool) (t : RSt) (K V I : Nat → Prop) (ka : Option Addr) (kc : Nat) (va : Option Addr) (vc : Nat) (ia : Option Addr) (ic : Nat) : Prop where
  box : w.heap[B]? = some (.cells #[.bool lf, .slice ka t.keys.length kc, .slice va t.values.length vc, .slice ia t.kids.length ic] 25 (0, 0))
  sl : NodeSl w K V I ⟨lf, t.keys, t.values, t.kids⟩ ka kc va vc ia ic
  ap : Apart3 M K V I
  top : ∀ j, K j ∨ V j ∨ I j → j < w.heap.size
theorem qd_fin {w wr w' : World} {D : Nat} {lf : Bool} {t : RSt} {K V I : Nat → Prop} {ka : Option Addr} {kc : Nat} {va : Option Addr} {vc : Nat} {ia : Option Addr} {ic : Nat}
    (hD : D = w.heap.size) (h : QdAt wr (D + 2) (D + 1) lf t K V I ka kc va vc ia ic) (hc : Bl w wr) (h4 : Chg (fun i => i = D) wr w') :
    NodeAt w' (fun j => w.heap.size ≤ j) (.agg #[.bool lf, .slice ka t.keys.length kc, .slice va t.values.length vc, .slice ia t.kids.length ic]) ⟨lf, t.keys, t.values, t.kids⟩ ∧ Bl w w' := by
  have ap := h.ap
  have g1 := sl_fin h.sl.keys (Bl.refl wr) h4 (fun j hj e => by have := ap.k j hj; omega)
  have g2 := sl_fin h.sl.values (Bl.refl wr) h4 (fun j hj e => by have := ap.v j hj; omega)
  have g3 := sl_fin h.sl.kids (Bl.refl wr) h4 (fun j hj e => by have := ap.i j hj; omega)
  refine ⟨⟨ka, kc, va, vc, ia, ic, rfl, ⟨(g1.mono (fun j _ hj => ?_)).rd, (g2.mono (fun j _ hj => ?_)).rd, (g3.mono (fun j _ hj => ?_)).rd⟩⟩, hc.chg h4 (fun i hi e => by omega)⟩
  · have := ap.k j hj; show w.heap.size ≤ j; omega
  · have := ap.v j hj; show w.heap.size ≤ j; omega
  · have := ap.i j hj; show w.heap.size ≤ j; omega
set_option maxRecDepth 100000 in
set_option maxHeartbeats 4000000 in
theorem rread_leaf (w : World) (own : Nat → Prop) (xa : Option Addr) (xc : Nat) (xs : List Int) (hx : RdAt w own 1 (.slice xa xs.length xc) xs.length (bcells xs)) (hb : OkB xs) (h16 : 512 ≤ xs.length) (h81 : xs.length ≤ 8192) (T : RSt) (n : Nat)
    (hk1 : xs[4] = 1) (hn : numTo (strOfNums ((xs.drop 6).take 2)) 2 = (n : Int)) (hn1 : n ≤ 65535) (hT : T = rsLeaf (strOfNums (xs.drop 16)) 0 n) :
    Calls Try.prog 60 #[.slice xa xs.length xc] w fun e w' => ∃ v ok m, e = .returned (.tuple #[v, .bool ok]) ∧ (NodeAt w' (fun j => w.heap.size ≤ j) v m ∧ Bl w w') ∧ ((ok = true ∧ T.r.e = 0 ∧ m = ⟨true, T.keys, T.values, T.kids⟩) ∨ (ok = false ∧ T.r.e ≠ 0)) := by
  have HT := Lib.hid hT
  have HN := Lib.hid hn1
  obtain ⟨i9, hi9, hz90, hz91, hz92⟩ := info_parts info9
  obtain ⟨q6, q6c, hsl6, hq6⟩ := slice_mid hx 6 2 (by omega) 6 8 rfl rfl
  obtain ⟨g, off, rfl, hog, hg, hcell⟩ := hx.get (by omega)
  have HC : Hid (∀ wr, Bl w wr → ∀ (j : Nat) (hj : j < xs.length), wr.cell? ⟨g, off + j, none⟩ = some (.int .u8 xs[j])) := fun wr k j hj => (k.cell (p := ⟨g, off + j, none⟩) hg).trans (hcell j _ (bcells_get hj))
  have HX := Lib.hid hx
  have HB := Lib.hid hb
  have H6 : Hid (RdAt w own 1 (.slice q6 2 q6c) ((xs.drop 6).take 2).length (bcells ((xs.drop 6).take 2)) ∧ ((xs.drop 6).take 2).length = 2 ∧ OkB ((xs.drop 6).take 2)) := ⟨hq6, by rw [List.length_take, List.length_drop]; omega, fun x hx => hb x (List.mem_of_mem_drop (List.mem_of_mem_take hx))⟩
  have kW : Bl w ((w.alloc (.cells #[.bool false, .slice none 0 0, .slice none 0 0, .slice none 0 0] 25)).alloc (.cells #[.bool true, .slice none 0 0, .slice none 0 0, .slice none 0 0] 25)) := ((Bl.refl w).alloc _).alloc _
  have c4 := HC.out _ ((Bl.refl w).alloc (.cells #[.bool false, .slice none 0 0, .slice none 0 0, .slice none 0 0] 25)) 4 (by omega)
  have hl4 : (4 : Int) < (xs.length : Int) := by omega
  rw [hk1] at c4
  clear hT hcell hx hq6 hb hk1
  have b0 : ((w.alloc (.cells #[.bool false, .slice none 0 0, .slice none 0 0, .slice none 0 0] 25)).alloc (.cells #[.bool true, .slice none 0 0, .slice none 0 0, .slice none 0 0] 25)).heap[w.heap.size]? = some (.cells #[.bool false, .slice none 0 0, .slice none 0 0, .slice none 0 0] 25 (0, 0)) := block_old _ (block_new _ _)
  have bB : ((w.alloc (.cells #[.bool false, .slice none 0 0, .slice none 0 0, .slice none 0 0] 25)).alloc (.cells #[.bool true, .slice none 0 0, .slice none 0 0, .slice none 0 0] 25)).heap[w.heap.size + 1]? = some (.cells #[.bool true, .slice none 0 0, .slice none 0 0, .slice none 0 0] 25 (0, 0)) := block_new' _ (by simp)
  go_enter Try.func60, Try.ntmps60
  go_wp2_with fail
  generalize (w.alloc (.cells #[.bool false, .slice none 0 0, .slice none 0 0, .slice none 0 0] 25)).alloc (.cells #[.bool true, .slice none 0 0, .slice none 0 0, .slice none 0 0] 25) = W1 at *
  clear c4 hl4
  obtain ⟨D, hD⟩ : ∃ D, D = w.heap.size := ⟨_, rfl⟩
  have HD := Lib.hid hD
  rw [← hD] at b0 bB ⊢
  clear hD
  go_loopw [5, 6, 7, 8] (fun av i _ _ wr => ∃ (k q : Nat) (ka : Option Addr) (kc : Nat) (va : Option Addr) (vc : Nat) (ia : Option Addr) (ic : Nat) (K V I : Nat → Prop), k ≤ n ∧ i = .int .i64 k ∧ av = .int .i64 q ∧ q ≤ xs.length ∧ (rsLeaf (strOfNums (xs.drop 16)) 0 k).r = ⟨strOfNums (xs.drop q), 0⟩ ∧ QdAt wr (D + 2) (D + 1) true (rsLeaf (strOfNums (xs.drop 16)) 0 k) K V I ka kc va vc ia ic ∧ wr.heap[D]? = some (.cells #[.bool false, .slice none 0 0, .slice none 0 0, .slice none 0 0] 25 (0, 0)) ∧ Bl w wr) (fun _ i _ _ _ => n - (intOf i).toNat)
  case atStart => exact ⟨0, 16, none, 0, none, 0, none, 0, (fun _ => False), (fun _ => False), (fun _ => False), Nat.zero_le _, rfl, rfl, by omega, rfl, ⟨bB, ⟨SlAt.nil _ _ _ _ _, SlAt.nil _ _ _ _ _, SlAt.nil _ _ _ _ _⟩, ⟨fun _ h => h.elim, fun _ h => h.elim, fun _ h => h.elim, fun _ h => h.elim, fun _ h => h.elim, fun _ h => h.elim⟩, fun _ h => by rcases h with h | h | h <;> exact h.elim⟩, b0, kW⟩
  case round =>
    obtain ⟨k, q, ka, kc, va, vc, ia, ic, K, V, I, hk, rfl, rfl, hq, hr, hst, b0r, kwr⟩ := hrel
    clear b0 bB kW
    have i0 : (0 : Int) ≤ (k : Int) := by omega
    have j0 : (0 : Int) ≤ (q : Int) := by omega
    have j1 : (q : Int) ≤ (xs.length : Int) := by omega
    have hnum := number_any wr own q6 2 q6c ((xs.drop 6).take 2) (H6.out.1.below kwr) H6.out.2.1 (by omega) H6.out.2.2
    rw [hn] at hnum
    have HS6 := Lib.hid hsl6
    clear hn
    go_wp2_with fail
    refine hnum.mono ?_
    rintro e w2 ⟨rfl, hw2⟩
    rw [hw2]
    clear hw2 w2 hnum hsl6
    obtain ⟨x0, x1, x2, x3, -⟩ := cells4 hst.box
    obtain ⟨y0, y1, y2, y3, f0, f1, f2, f3⟩ := cells4 b0r
    have hrun := RSt.leaf_run ⟨[], [], [], ⟨strOfNums (xs.drop 16), 0⟩⟩ k
    have he : (rsLeaf (strOfNums (xs.drop 16)) 0 k).r.e = 0 := by rw [hr]
    have hstep : Hid (rsLeaf (strOfNums (xs.drop 16)) 0 (k + 1) = (rsLeaf (strOfNums (xs.drop 16)) 0 k).leafStep) := RSt.run_step he
    have hkl : (rsLeaf (strOfNums (xs.drop 16)) 0 k).keys.length ≤ k := Nat.le_trans hrun.2.1 (by simp)
    have hvl : (rsLeaf (strOfNums (xs.drop 16)) 0 k).values.length ≤ k := Nat.le_trans hrun.2.2.1 (by simp)
    have HRS : Hid (∀ m, k ≤ m → (rsLeaf (strOfNums (xs.drop 16)) 0 k).r.e ≠ 0 → rsLeaf (strOfNums (xs.drop 16)) 0 m = rsLeaf (strOfNums (xs.drop 16)) 0 k) := fun m hm hne => RSt.run_stays hne m hm
    have HRS1 : Hid (∀ m, k + 1 ≤ m → (rsLeaf (strOfNums (xs.drop 16)) 0 (k + 1)).r.e ≠ 0 → rsLeaf (strOfNums (xs.drop 16)) 0 m = rsLeaf (strOfNums (xs.drop 16)) 0 (k + 1)) := fun m hm hne => RSt.run_stays hne m hm
    have HTn : Hid (k < n → (rsLeaf (strOfNums (xs.drop 16)) 0 k).leafStep.r.e ≠ 0 → T.r.e ≠ 0) := fun hlt hne => by
      rw [HT.out, HRS1.out n hlt (by rw [hstep.out]; exact hne), hstep.out]
      exact hne
    clear HRS HRS1 hrun
    have hat := leaf_at HB.out hq hr
    have HA := Lib.hid hat
    have HK : Hid (k = n → T = rsLeaf (strOfNums (xs.drop 16)) 0 k) := fun e => by rw [e]; exact HT.out
    generalize rsLeaf (strOfNums (xs.drop 16)) 0 k = t at *
    have HKL := Lib.hid (And.intro hkl hvl)
    clear hkl hvl hat hr
    by_cases hlt : k < n
    · have i1 : (k : Int) < (n : Int) := by omega
      by_cases h9 : xs.length < q + 2
      · have h9i : (xs.length : Int) < (q : Int) + 2 := by omega
        have hbad := HTn.out hlt (HA.out.1 h9)
        clear h9
        go_wp2_with fail
        have hc4 := chg4 (Bl.refl wr) D (.bool true) (.slice ka t.keys.length kc) (.slice va t.values.length vc) (.slice ia t.kids.length ic)
        refine bodyPost_ret (v := .tuple #[.agg #[.bool true, .slice ka t.keys.length kc, .slice va t.values.length vc, .slice ia t.kids.length ic], .bool false]) (by simp [results, Try.results60, go_sem, *]) rfl ?_
        exact ⟨_, _, _, rfl, qd_fin HD.out hst kwr hc4, Or.inr ⟨rfl, hbad⟩⟩
      · have h9i : ¬ (xs.length : Int) < (q : Int) + 2 := by omega
        have hq2 : q + 2 ≤ xs.length := by omega
        obtain ⟨kn, hkn⟩ := Int.eq_ofNat_of_zero_le (HB.out xs[q] (List.getElem_mem (by omega))).1
        obtain ⟨vn, hvn⟩ := Int.eq_ofNat_of_zero_le (HB.out xs[q + 1] (List.getElem_mem (by omega))).1
        have hk1 : (kn : Int) ≤ 255 := by have := (HB.out xs[q] (List.getElem_mem (by omega))).2; omega
        have hv1 : (vn : Int) ≤ 255 := by have := (HB.out xs[q + 1] (List.getElem_mem (by omega))).2; omega
        have hk0 : (0 : Int) ≤ (kn : Int) := by omega
        have hv0 : (0 : Int) ≤ (vn : Int) := by omega
        have c1 := HC.out _ kwr q (by omega)
        have c2 := HC.out _ kwr (q + 1) (by omega)
        rw [hkn] at c1
        rw [hvn] at c2
        have HA2 := Lib.hid (HA.out.2 hq2 kn vn hkn hvn)
        clear hkn hvn
        have j2 : (q : Int) < (xs.length : Int) := by omega
        have j3 : (0 : Int) ≤ (q : Int) + 1 := by omega
        have j4 : (q : Int) + 1 < (xs.length : Int) := by omega
        have hidx : ((q : Int) + 1).toNat = q + 1 := by omega
        by_cases h14 : xs.length < q + 2 + kn + vn
        · have h14i : (xs.length : Int) < (q : Int) + 2 + (kn : Int) + (vn : Int) := by omega
          have hbad := HTn.out hlt (HA2.out.1 h14)
          clear h9 h14
          go_wp2_with fail
          have hc4 := chg4 (Bl.refl wr) D (.bool true) (.slice ka t.keys.length kc) (.slice va t.values.length vc) (.slice ia t.kids.length ic)
          refine bodyPost_ret (v := .tuple #[.agg #[.bool true, .slice ka t.keys.length kc, .slice va t.values.length vc, .slice ia t.kids.length ic], .bool false]) (by simp [results, Try.results60, go_sem, *]) rfl ?_
          exact ⟨_, _, _, rfl, qd_fin HD.out hst kwr hc4, Or.inr ⟨rfl, hbad⟩⟩
        · have h14i : ¬ (xs.length : Int) < (q : Int) + 2 + (kn : Int) + (vn : Int) := by omega
          have h14n : q + 2 + kn + vn ≤ xs.length := by omega
          clear h9 h14
          go_wp2_with fail
          obtain ⟨ax, cx, hslA, hrA⟩ := slice_mid HX.out (q + 2) kn (by omega) ((q : Int) + 2) ((q : Int) + 2 + (kn : Int)) (by omega) (by omega)
          obtain ⟨ay, cy, hslB, hrB⟩ := slice_mid HX.out (q + 2 + kn) vn (by omega) ((q : Int) + 2 + (kn : Int)) ((q : Int) + 2 + (kn : Int) + (vn : Int)) (by omega) (by omega)
          have hEA : ((xs.drop (q + 2)).take kn).length = kn := by rw [List.length_take, List.length_drop]; omega
          have hEB : ((xs.drop (q + 2 + kn)).take vn).length = vn := by rw [List.length_take, List.length_drop]; omega
          have HCA : Hid (∀ W, Bl w W → (convert 36 9 (.slice ax kn cx)).run Try.prog W = .ok (.string (strOfNums ((xs.drop (q + 2)).take kn))) W) := fun W k => conv_str W _ _ _ (hrA.below k)
          have HCB : Hid (∀ W, Bl w W → (convert 36 9 (.slice ay vn cy)).run Try.prog W = .ok (.string (strOfNums ((xs.drop (q + 2 + kn)).take vn))) W) := fun W k => conv_str W _ _ _ (hrB.below k)
          have HA3 := Lib.hid (HA2.out.2 h14n)
          have HSB := Lib.hid hslB
          clear hrA hrB hEA hEB hslB HA2 c1 c2 h14n hq2 HC H6 HX HTn HK j3 j4 hidx
          generalize strOfNums ((xs.drop (q + 2)).take kn) = TA at *
          generalize strOfNums ((xs.drop (q + 2 + kn)).take vn) = TB at *
          have wq2 : IntKind.i64.wrap ((q : Int) + 2) = (q : Int) + 2 := IntWalk.i64_in _ ⟨by omega, by omega⟩
          have wqk : IntKind.i64.wrap ((q : Int) + 2 + (kn : Int)) = (q : Int) + 2 + (kn : Int) := IntWalk.i64_in _ ⟨by omega, by omega⟩
          have wqv : IntKind.i64.wrap ((q : Int) + 2 + (kn : Int) + (vn : Int)) = (q : Int) + 2 + (kn : Int) + (vn : Int) := IntWalk.i64_in _ ⟨by omega, by omega⟩
          have hcvA := HCA.out _ (Bl.drew kwr)
          refine M_region (S := fun w' => w'.cell? ⟨D + 1, 1, none⟩ = some (.slice ka t.keys.length kc)) (z := 14) (by kernel_rfl) ?_
          have hS0 : (fun w' : World => w'.cell? ⟨D + 1, 1, none⟩ = some (.slice ka t.keys.length kc)) wr.drew := (cells4 (below_keeps (Bl.drew (Bl.refl wr)) hst.box (lt_of_block hst.box))).2.1
          refine M_take (i := 0) (by decide) (by kernel_rfl) (by kernel_rfl) (by kernel_rfl) (by kernel_rfl) (fun _ _ _ h => h) hS0 (by rfl) (v := ?_) ?_ ?_
          rotate_left
          · intro w' hSw
            have hs1 : w'.cell? ⟨D + 1, 1, none⟩ = some (.slice ka t.keys.length kc) := hSw
            go_simp
            try with_reducible rfl
          try simp only [Act.put, List.getElem_toArray, List.getElem_cons_succ, List.getElem_cons_zero, List.setIfInBounds_toArray, List.set_cons_zero, List.set_cons_succ]
          refine M_take (i := 1) (by decide) (by kernel_rfl) (by kernel_rfl) (by kernel_rfl) (by kernel_rfl) (fun _ _ _ h => h) hS0 (by rfl) (v := ?_) ?_ ?_
          rotate_left
          · intro w' hSw
            have hs1 : w'.cell? ⟨D + 1, 1, none⟩ = some (.slice ka t.keys.length kc) := hSw
            go_simp
            try with_reducible rfl
          try simp only [Act.put, List.getElem_toArray, List.getElem_cons_succ, List.getElem_cons_zero, List.setIfInBounds_toArray, List.set_cons_zero, List.set_cons_succ]
          refine M_take (i := 2) (by decide) (by kernel_rfl) (by kernel_rfl) (by kernel_rfl) (by kernel_rfl) (fun _ _ _ h => h) hS0 (by rfl) (v := ?_) ?_ ?_
          rotate_left
          · intro w' hSw
            have hs1 : w'.cell? ⟨D + 1, 1, none⟩ = some (.slice ka t.keys.length kc) := hSw
            go_simp
            try with_reducible rfl
          try simp only [Act.put, List.getElem_toArray, List.getElem_cons_succ, List.getElem_cons_zero, List.setIfInBounds_toArray, List.set_cons_zero, List.set_cons_succ]
          refine M_take (i := 3) (by decide) (by kernel_rfl) (by kernel_rfl) (by kernel_rfl) (by kernel_rfl) (fun _ _ _ h => h) hS0 (by rfl) (v := ?_) ?_ ?_
          rotate_left
          · intro w' hSw
            have hs1 : w'.cell? ⟨D + 1, 1, none⟩ = some (.slice ka t.keys.length kc) := hSw
            go_simp
            try with_reducible rfl
          try simp only [Act.put, List.getElem_toArray, List.getElem_cons_succ, List.getElem_cons_zero, List.setIfInBounds_toArray, List.set_cons_zero, List.set_cons_succ]
          refine M_take (i := 4) (by decide) (by kernel_rfl) (by kernel_rfl) (by kernel_rfl) (by kernel_rfl) (fun _ _ _ h => h) hS0 (by rfl) (v := ?_) ?_ ?_
          rotate_left
          · intro w' hSw
            have hs1 : w'.cell? ⟨D + 1, 1, none⟩ = some (.slice ka t.keys.length kc) := hSw
            go_simp
            try with_reducible rfl
          try simp only [Act.put, List.getElem_toArray, List.getElem_cons_succ, List.getElem_cons_zero, List.setIfInBounds_toArray, List.set_cons_zero, List.set_cons_succ]
          refine M_take (i := 5) (by decide) (by kernel_rfl) (by kernel_rfl) (by kernel_rfl) (by kernel_rfl) (fun _ _ _ h => h) hS0 (by rfl) (v := ?_) ?_ ?_
          rotate_left
          · intro w' hSw
            have hs1 : w'.cell? ⟨D + 1, 1, none⟩ = some (.slice ka t.keys.length kc) := hSw
            go_simp
            try with_reducible rfl
          try simp only [Act.put, List.getElem_toArray, List.getElem_cons_succ, List.getElem_cons_zero, List.setIfInBounds_toArray, List.set_cons_zero, List.set_cons_succ]
          refine M_take (i := 6) (by decide) (by kernel_rfl) (by kernel_rfl) (by kernel_rfl) (by kernel_rfl) (fun _ _ _ h => h) hS0 (by rfl) (v := ?_) ?_ ?_
          rotate_left
          · intro w' hSw
            have hs1 : w'.cell? ⟨D + 1, 1, none⟩ = some (.slice ka t.keys.length kc) := hSw
            go_simp
            try with_reducible rfl
          try simp only [Act.put, List.getElem_toArray, List.getElem_cons_succ, List.getElem_cons_zero, List.setIfInBounds_toArray, List.set_cons_zero, List.set_cons_succ]
          refine M_take (i := 7) (by decide) (by kernel_rfl) (by kernel_rfl) (by kernel_rfl) (by kernel_rfl) (fun _ _ _ h => h) hS0 (by rfl) (v := ?_) ?_ ?_
          rotate_left
          · intro w' hSw
            have hs1 : w'.cell? ⟨D + 1, 1, none⟩ = some (.slice ka t.keys.length kc) := hSw
            go_simp
            try with_reducible rfl
          try simp only [Act.put, List.getElem_toArray, List.getElem_cons_succ, List.getElem_cons_zero, List.setIfInBounds_toArray, List.set_cons_zero, List.set_cons_succ]
          refine M_take (i := 8) (by decide) (by kernel_rfl) (by kernel_rfl) (by kernel_rfl) (by kernel_rfl) (fun _ _ _ h => h) hS0 (by rfl) (v := ?_) ?_ ?_
          rotate_left
          · intro w' hSw
            have hs1 : w'.cell? ⟨D + 1, 1, none⟩ = some (.slice ka t.keys.length kc) := hSw
            go_simp
            try with_reducible rfl
          try simp only [Act.put, List.getElem_toArray, List.getElem_cons_succ, List.getElem_cons_zero, List.setIfInBounds_toArray, List.set_cons_zero, List.set_cons_succ]
          refine M_one (i := 9) (by decide) (by kernel_rfl) (fun K' hK => ?_)
          try simp only [List.getElem_toArray, List.getElem_cons_succ, List.getElem_cons_zero]
          go_simp
          refine hK.out _ _ (Or.inr (cells4 (below_keeps (Bl.drew (Bl.refl wr)) hst.box (lt_of_block hst.box))).2.1) ?_
          clear hK K'
          try simp only [Act.put, List.getElem_toArray, List.getElem_cons_succ, List.getElem_cons_zero, List.setIfInBounds_toArray, List.set_cons_zero, List.set_cons_succ]
          refine M_one (i := 10) (by decide) (by kernel_rfl) (fun K' hK => ?_)
          try simp only [List.getElem_toArray, List.getElem_cons_succ, List.getElem_cons_zero]
          go_simp
          refine hK.out _ _ (Or.inr (cells4 (below_keeps (Bl.drew (Bl.refl wr)) hst.box (lt_of_block hst.box))).2.1) ?_
          clear hK K'
          try simp only [Act.put, List.getElem_toArray, List.getElem_cons_succ, List.getElem_cons_zero, List.setIfInBounds_toArray, List.set_cons_zero, List.set_cons_succ]
          refine M_one (i := 11) (by decide) (by kernel_rfl) (fun K' hK => ?_)
          try simp only [List.getElem_toArray, List.getElem_cons_succ, List.getElem_cons_zero]
          go_simp
          refine hK.out _ _ (Or.inr (cells4 (below_keeps ((Bl.drew (Bl.refl wr)).alloc _) hst.box (lt_of_block hst.box))).2.1) ?_
          clear hK K'
          try simp only [Act.put, List.getElem_toArray, List.getElem_cons_succ, List.getElem_cons_zero, List.setIfInBounds_toArray, List.set_cons_zero, List.set_cons_succ]
          refine M_one (i := 12) (by decide) (by kernel_rfl) (fun K' hK => ?_)
          refine step_append_sl rfl (.tmp 62) (.tmp 72) 22 rfl 9 i9 (.string ⟨#[]⟩) 1 16 Try.underlying22 hi9 hz90 hz91 hz92 rfl K _ t.keys.length (tcells t.keys) rfl ?_ (fun j => j = wr.drew.heap.size) _ 1 (tcells [TA]) rfl ?_ (tcells_one _) ?_ ?_ ?_
          · exact (hst.sl.keys.below (Bl.drew (Bl.refl wr))).below ((Bl.refl _).alloc _)
          · exact rd_newG rfl rfl (by unfold maxLen; omega)
          · have := HKL.out; have := HN.out; unfold maxLen; omega
          · have := HKL.out; have := HN.out; omega
          intro v6 w6 hs6 hc6
          obtain ⟨a6, cap6, rfl⟩ := hs6.shape
          have hq6 : Chg K wr w6 := (((Chg.refl _ _).drew).alloc _).trans hc6
          have b6 := hq6.keeps hst.box (fun e => by have := hst.ap.k _ e; omega)
          refine hK.out _ _ (Or.inr (cells4 b6).2.1) ?_
          clear hK K'
          try simp only [Act.put, List.getElem_toArray, List.getElem_cons_succ, List.getElem_cons_zero, List.setIfInBounds_toArray, List.set_cons_zero, List.set_cons_succ]
          refine M_one (i := 13) (by decide) (by kernel_rfl) (fun K' hK => ?_)
          try simp only [List.getElem_toArray, List.getElem_cons_succ, List.getElem_cons_zero]
          go_simp
          refine hK.out _ _ (Or.inr (cells4 b6).2.1) ?_
          clear hK K'
          try simp only [Act.put, List.getElem_toArray, List.getElem_cons_succ, List.getElem_cons_zero, List.setIfInBounds_toArray, List.set_cons_zero, List.set_cons_succ]
          obtain ⟨x0, x1, x2, x3, f0, f1, f2, f3⟩ := cells4 b6
          refine M_one (i := 14) (by decide) (by kernel_rfl) (fun K' hK => ?_)
          try simp only [List.getElem_toArray, List.getElem_cons_succ, List.getElem_cons_zero]
          go_simp
          refine hK.out _ _ (Or.inl rfl) ?_
          clear hK K'
          try simp only [Act.put, List.getElem_toArray, List.getElem_cons_succ, List.getElem_cons_zero, List.setIfInBounds_toArray, List.set_cons_zero, List.set_cons_succ]
          refine M_done (by kernel_rfl) ?_ _
          have b7 : (w6.setCell ⟨D + 1, 1, none⟩ (.slice a6 (t.keys.length + 1) cap6)).heap[D + 1]? = some (.cells #[.bool true, .slice a6 (t.keys.length + 1) cap6, .slice va t.values.length vc, .slice ia t.kids.length ic] 25 (0, 0)) := by rw [block_set b6]; rfl
          have c7 : Chg (fun j => j = D + 1) w6 (w6.setCell ⟨D + 1, 1, none⟩ (.slice a6 (t.keys.length + 1) cap6)) := (Chg.refl _ _).setCell _ _ (fun _ => rfl)
          generalize w6.setCell ⟨D + 1, 1, none⟩ (.slice a6 (t.keys.length + 1) cap6) = w7 at *
          clear x0 x1 x2 x3 f0 f1 f2 f3 y0 y1 y2 y3 hS0 hcvA hslA
          obtain ⟨x0, x1, x2, x3, f0, f1, f2, f3⟩ := cells4 b7
          have k6 : Bl w w6 := kwr.chg hq6 (fun i hi e => by have h1 := hst.ap.k i e; have h2 := HD.out; omega)
          have k7 : Bl w w7 := k6.chg c7 (fun i hi e => by have h2 := HD.out; omega)
          have hv7 := (hst.sl.values.chg hq6 (fun j hj e => hst.ap.kv j e hj)).chg c7 (fun j hj e => by have h1 := hst.ap.v j hj; omega)
          go_wp2_with fail
          have hcvB := HCB.out _ (Bl.drew k7)
          have hslB := HSB.out
          refine M_region (S := fun w' => w'.cell? ⟨D + 1, 2, none⟩ = some (.slice va t.values.length vc)) (z := 18) (by kernel_rfl) ?_
          have hS0 : (fun w' : World => w'.cell? ⟨D + 1, 2, none⟩ = some (.slice va t.values.length vc)) w7.drew := (cells4 (below_keeps (Bl.drew (Bl.refl w7)) b7 (lt_of_block b7))).2.2.1
          refine M_take (i := 0) (by decide) (by kernel_rfl) (by kernel_rfl) (by kernel_rfl) (by kernel_rfl) (fun _ _ _ h => h) hS0 (by rfl) (v := ?_) ?_ ?_
          rotate_left
          · intro w' hSw
            have hs1 : w'.cell? ⟨D + 1, 2, none⟩ = some (.slice va t.values.length vc) := hSw
            go_simp
            try with_reducible rfl
          try simp only [Act.put, List.getElem_toArray, List.getElem_cons_succ, List.getElem_cons_zero, List.setIfInBounds_toArray, List.set_cons_zero, List.set_cons_succ]
          refine M_take (i := 1) (by decide) (by kernel_rfl) (by kernel_rfl) (by kernel_rfl) (by kernel_rfl) (fun _ _ _ h => h) hS0 (by rfl) (v := ?_) ?_ ?_
          rotate_left
          · intro w' hSw
            have hs1 : w'.cell? ⟨D + 1, 2, none⟩ = some (.slice va t.values.length vc) := hSw
            go_simp
            try with_reducible rfl
          try simp only [Act.put, List.getElem_toArray, List.getElem_cons_succ, List.getElem_cons_zero, List.setIfInBounds_toArray, List.set_cons_zero, List.set_cons_succ]
          refine M_take (i := 2) (by decide) (by kernel_rfl) (by kernel_rfl) (by kernel_rfl) (by kernel_rfl) (fun _ _ _ h => h) hS0 (by rfl) (v := ?_) ?_ ?_
          rotate_left
          · intro w' hSw
            have hs1 : w'.cell? ⟨D + 1, 2, none⟩ = some (.slice va t.values.length vc) := hSw
            go_simp
            try with_reducible rfl
          try simp only [Act.put, List.getElem_toArray, List.getElem_cons_succ, List.getElem_cons_zero, List.setIfInBounds_toArray, List.set_cons_zero, List.set_cons_succ]
          refine M_take (i := 3) (by decide) (by kernel_rfl) (by kernel_rfl) (by kernel_rfl) (by kernel_rfl) (fun _ _ _ h => h) hS0 (by rfl) (v := ?_) ?_ ?_
          rotate_left
          · intro w' hSw
            have hs1 : w'.cell? ⟨D + 1, 2, none⟩ = some (.slice va t.values.length vc) := hSw
            go_simp
            try with_reducible rfl
          try simp only [Act.put, List.getElem_toArray, List.getElem_cons_succ, List.getElem_cons_zero, List.setIfInBounds_toArray, List.set_cons_zero, List.set_cons_succ]
          refine M_take (i := 4) (by decide) (by kernel_rfl) (by kernel_rfl) (by kernel_rfl) (by kernel_rfl) (fun _ _ _ h => h) hS0 (by rfl) (v := ?_) ?_ ?_
          rotate_left
          · intro w' hSw
            have hs1 : w'.cell? ⟨D + 1, 2, none⟩ = some (.slice va t.values.length vc) := hSw
            go_simp
            try with_reducible rfl
          try simp only [Act.put, List.getElem_toArray, List.getElem_cons_succ, List.getElem_cons_zero, List.setIfInBounds_toArray, List.set_cons_zero, List.set_cons_succ]
          refine M_take (i := 5) (by decide) (by kernel_rfl) (by kernel_rfl) (by kernel_rfl) (by kernel_rfl) (fun _ _ _ h => h) hS0 (by rfl) (v := ?_) ?_ ?_
          rotate_left
          · intro w' hSw
            have hs1 : w'.cell? ⟨D + 1, 2, none⟩ = some (.slice va t.values.length vc) := hSw
            go_simp
            try with_reducible rfl
          try simp only [Act.put, List.getElem_toArray, List.getElem_cons_succ, List.getElem_cons_zero, List.setIfInBounds_toArray, List.set_cons_zero, List.set_cons_succ]
          refine M_take (i := 6) (by decide) (by kernel_rfl) (by kernel_rfl) (by kernel_rfl) (by kernel_rfl) (fun _ _ _ h => h) hS0 (by rfl) (v := ?_) ?_ ?_
          rotate_left
          · intro w' hSw
            have hs1 : w'.cell? ⟨D + 1, 2, none⟩ = some (.slice va t.values.length vc) := hSw
            go_simp
            try with_reducible rfl
          try simp only [Act.put, List.getElem_toArray, List.getElem_cons_succ, List.getElem_cons_zero, List.setIfInBounds_toArray, List.set_cons_zero, List.set_cons_succ]
          refine M_take (i := 7) (by decide) (by kernel_rfl) (by kernel_rfl) (by kernel_rfl) (by kernel_rfl) (fun _ _ _ h => h) hS0 (by rfl) (v := ?_) ?_ ?_
          rotate_left
          · intro w' hSw
            have hs1 : w'.cell? ⟨D + 1, 2, none⟩ = some (.slice va t.values.length vc) := hSw
            go_simp
            try with_reducible rfl
          try simp only [Act.put, List.getElem_toArray, List.getElem_cons_succ, List.getElem_cons_zero, List.setIfInBounds_toArray, List.set_cons_zero, List.set_cons_succ]
          refine M_take (i := 8) (by decide) (by kernel_rfl) (by kernel_rfl) (by kernel_rfl) (by kernel_rfl) (fun _ _ _ h => h) hS0 (by rfl) (v := ?_) ?_ ?_
          rotate_left
          · intro w' hSw
            have hs1 : w'.cell? ⟨D + 1, 2, none⟩ = some (.slice va t.values.length vc) := hSw
            go_simp
            try with_reducible rfl
          try simp only [Act.put, List.getElem_toArray, List.getElem_cons_succ, List.getElem_cons_zero, List.setIfInBounds_toArray, List.set_cons_zero, List.set_cons_succ]
          refine M_take (i := 9) (by decide) (by kernel_rfl) (by kernel_rfl) (by kernel_rfl) (by kernel_rfl) (fun _ _ _ h => h) hS0 (by rfl) (v := ?_) ?_ ?_
          rotate_left
          · intro w' hSw
            have hs1 : w'.cell? ⟨D + 1, 2, none⟩ = some (.slice va t.values.length vc) := hSw
            go_simp
            try with_reducible rfl
          try simp only [Act.put, List.getElem_toArray, List.getElem_cons_succ, List.getElem_cons_zero, List.setIfInBounds_toArray, List.set_cons_zero, List.set_cons_succ]
          refine M_take (i := 10) (by decide) (by kernel_rfl) (by kernel_rfl) (by kernel_rfl) (by kernel_rfl) (fun _ _ _ h => h) hS0 (by rfl) (v := ?_) ?_ ?_
          rotate_left
          · intro w' hSw
            have hs1 : w'.cell? ⟨D + 1, 2, none⟩ = some (.slice va t.values.length vc) := hSw
            go_simp
            try with_reducible rfl
          try simp only [Act.put, List.getElem_toArray, List.getElem_cons_succ, List.getElem_cons_zero, List.setIfInBounds_toArray, List.set_cons_zero, List.set_cons_succ]
          refine M_take (i := 11) (by decide) (by kernel_rfl) (by kernel_rfl) (by kernel_rfl) (by kernel_rfl) (fun _ _ _ h => h) hS0 (by rfl) (v := ?_) ?_ ?_
          rotate_left
          · intro w' hSw
            have hs1 : w'.cell? ⟨D + 1, 2, none⟩ = some (.slice va t.values.length vc) := hSw
            go_simp
            try with_reducible rfl
          try simp only [Act.put, List.getElem_toArray, List.getElem_cons_succ, List.getElem_cons_zero, List.setIfInBounds_toArray, List.set_cons_zero, List.set_cons_succ]
          refine M_take (i := 12) (by decide) (by kernel_rfl) (by kernel_rfl) (by kernel_rfl) (by kernel_rfl) (fun _ _ _ h => h) hS0 (by rfl) (v := ?_) ?_ ?_
          rotate_left
          · intro w' hSw
            have hs1 : w'.cell? ⟨D + 1, 2, none⟩ = some (.slice va t.values.length vc) := hSw
            go_simp
            try with_reducible rfl
          try simp only [Act.put, List.getElem_toArray, List.getElem_cons_succ, List.getElem_cons_zero, List.setIfInBounds_toArray, List.set_cons_zero, List.set_cons_succ]
          refine M_one (i := 13) (by decide) (by kernel_rfl) (fun K' hK => ?_)
          try simp only [List.getElem_toArray, List.getElem_cons_succ, List.getElem_cons_zero]
          go_simp
          refine hK.out _ _ (Or.inr (cells4 (below_keeps (Bl.drew (Bl.refl w7)) b7 (lt_of_block b7))).2.2.1) ?_
          clear hK K'
          try simp only [Act.put, List.getElem_toArray, List.getElem_cons_succ, List.getElem_cons_zero, List.setIfInBounds_toArray, List.set_cons_zero, List.set_cons_succ]
          refine M_one (i := 14) (by decide) (by kernel_rfl) (fun K' hK => ?_)
          try simp only [List.getElem_toArray, List.getElem_cons_succ, List.getElem_cons_zero]
          go_simp
          refine hK.out _ _ (Or.inr (cells4 (below_keeps (Bl.drew (Bl.refl w7)) b7 (lt_of_block b7))).2.2.1) ?_
          clear hK K'
          try simp only [Act.put, List.getElem_toArray, List.getElem_cons_succ, List.getElem_cons_zero, List.setIfInBounds_toArray, List.set_cons_zero, List.set_cons_succ]
          refine M_one (i := 15) (by decide) (by kernel_rfl) (fun K' hK => ?_)
          try simp only [List.getElem_toArray, List.getElem_cons_succ, List.getElem_cons_zero]
          go_simp
          refine hK.out _ _ (Or.inr (cells4 (below_keeps ((Bl.drew (Bl.refl w7)).alloc _) b7 (lt_of_block b7))).2.2.1) ?_
          clear hK K'
          try simp only [Act.put, List.getElem_toArray, List.getElem_cons_succ, List.getElem_cons_zero, List.setIfInBounds_toArray, List.set_cons_zero, List.set_cons_succ]
          refine M_one (i := 16) (by decide) (by kernel_rfl) (fun K' hK => ?_)
          refine step_append_sl rfl (.tmp 76) (.tmp 90) 22 rfl 9 i9 (.string ⟨#[]⟩) 1 16 Try.underlying22 hi9 hz90 hz91 hz92 rfl V _ t.values.length (tcells t.values) rfl ?_ (fun j => j = w7.drew.heap.size) _ 1 (tcells [TB]) rfl ?_ (tcells_one _) ?_ ?_ ?_
          · exact (hv7.below (Bl.drew (Bl.refl w7))).below ((Bl.refl _).alloc _)
          · exact rd_newG rfl rfl (by unfold maxLen; omega)
          · have := HKL.out; have := HN.out; unfold maxLen; omega
          · have := HKL.out; have := HN.out; omega
          intro v9 w9 hs9 hc9
          obtain ⟨a9, cap9, rfl⟩ := hs9.shape
          have hq9 : Chg V w7 w9 := (((Chg.refl _ _).drew).alloc _).trans hc9
          have b9 := hq9.keeps b7 (fun e => by have := hst.ap.v _ e; omega)
          refine hK.out _ _ (Or.inr (cells4 b9).2.2.1) ?_
          clear hK K'
          try simp only [Act.put, List.getElem_toArray, List.getElem_cons_succ, List.getElem_cons_zero, List.setIfInBounds_toArray, List.set_cons_zero, List.set_cons_succ]
          refine M_one (i := 17) (by decide) (by kernel_rfl) (fun K' hK => ?_)
          try simp only [List.getElem_toArray, List.getElem_cons_succ, List.getElem_cons_zero]
          go_simp
          refine hK.out _ _ (Or.inr (cells4 b9).2.2.1) ?_
          clear hK K'
          try simp only [Act.put, List.getElem_toArray, List.getElem_cons_succ, List.getElem_cons_zero, List.setIfInBounds_toArray, List.set_cons_zero, List.set_cons_succ]
          obtain ⟨x0, x1, x2, x3, f0, f1, f2, f3⟩ := cells4 b9
          refine M_one (i := 18) (by decide) (by kernel_rfl) (fun K' hK => ?_)
          try simp only [List.getElem_toArray, List.getElem_cons_succ, List.getElem_cons_zero]
          go_simp
          refine hK.out _ _ (Or.inl rfl) ?_
          clear hK K'
          try simp only [Act.put, List.getElem_toArray, List.getElem_cons_succ, List.getElem_cons_zero, List.setIfInBounds_toArray, List.set_cons_zero, List.set_cons_succ]
          refine M_done (by kernel_rfl) ?_ _
          have b10 : (w9.setCell ⟨D + 1, 2, none⟩ (.slice a9 (t.values.length + 1) cap9)).heap[D + 1]? = some (.cells #[.bool true, .slice a6 (t.keys.length + 1) cap6, .slice a9 (t.values.length + 1) cap9, .slice ia t.kids.length ic] 25 (0, 0)) := by rw [block_set b9]; rfl
          have c10 : Chg (fun j => j = D + 1) w9 (w9.setCell ⟨D + 1, 2, none⟩ (.slice a9 (t.values.length + 1) cap9)) := (Chg.refl _ _).setCell _ _ (fun _ => rfl)
          generalize w9.setCell ⟨D + 1, 2, none⟩ (.slice a9 (t.values.length + 1) cap9) = w10 at *
          clear x0 x1 x2 x3 f0 f1 f2 f3 hS0 hcvB hslB
          go_wp2_with fail
          go_roundw
          case measure => simp [intOf]; omega
          case rel =>
            have z5 : ∀ o, (wr.alloc o).drew.heap.size = wr.heap.size + 1 := fun o => by simp
            have z8 : ∀ o, (w7.alloc o).drew.heap.size = w7.heap.size + 1 := fun o => by simp
            have s2 := hq6.size
            have s3 := c7.size
            have s5 := hq9.size
            have s6 := c10.size
            have hDw := HD.out
            have sB := lt_of_block hst.box
            have ap := hst.ap
            have tp := hst.top
            have hs6' := hs6.mono (own2 := fun j => (K j ∨ j = wr.heap.size + 1) ∧ j < w6.heap.size) (fun j hj e => ⟨e.imp id (fun q => q.trans (z5 _)), hj⟩)
            have hs9' := hs9.mono (own2 := fun j => (V j ∨ j = w7.heap.size + 1) ∧ j < w9.heap.size) (fun j hj e => ⟨e.imp id (fun q => q.trans (z8 _)), hj⟩)
            have mK : ∀ j, ((K j ∨ j = wr.heap.size + 1) ∧ j < w6.heap.size) → D + 2 ≤ j := fun j hj => by
              rcases hj.1 with e | e
              · exact ap.k j e
              · omega
            have mV : ∀ j, ((V j ∨ j = w7.heap.size + 1) ∧ j < w9.heap.size) → D + 2 ≤ j := fun j hj => by
              rcases hj.1 with e | e
              · exact ap.v j e
              · omega
            have nKV : ∀ j, ((K j ∨ j = wr.heap.size + 1) ∧ j < w6.heap.size) → ¬ V j := fun j hj hv => by
              rcases hj.1 with e | e
              · exact ap.kv j e hv
              · have := tp j (Or.inr (Or.inl hv)); omega
            have nI : ∀ j, I j → D + 2 ≤ j := ap.i
            have gK := ((hs6'.chg c7 (fun j hj e => by have := mK j hj; omega)).chg hq9 nKV).chg c10 (fun j hj e => by have := mK j hj; omega)
            have gV := hs9'.chg c10 (fun j hj e => by have := mV j hj; omega)
            have gI := (((hst.sl.kids.chg hq6 (fun j hj e => ap.ki j e hj)).chg c7 (fun j hj e => by have := nI j hj; omega)).chg hq9 (fun j hj e => ap.vi j e hj)).chg c10 (fun j hj e => by have := nI j hj; omega)
            have eS := HA3.out
            have eK : tcells (t.keys ++ [TA]) = tcells t.keys ++ tcells [TA] := List.map_append
            have eV : tcells (t.values ++ [TB]) = tcells t.values ++ tcells [TB] := List.map_append
            have hq' : q + 2 + kn + vn ≤ xs.length := by omega
            refine ⟨k + 1, q + 2 + kn + vn, a6, cap6, a9, cap9, ia, ic, (fun j => (K j ∨ j = wr.heap.size + 1) ∧ j < w6.heap.size), (fun j => (V j ∨ j = w7.heap.size + 1) ∧ j < w9.heap.size), I, by omega, by go_num, by go_num, hq', by rw [hstep.out, eS], ?_, ?_, ?_⟩
            · rw [hstep.out, eS]
              refine ⟨?_, ⟨?_, ?_, gI⟩, ⟨?_, ?_, ?_, mK, mV, nI⟩, ?_⟩
              · dsimp only
                rw [List.length_append, List.length_append]
                exact b10
              · dsimp only
                rw [List.length_append, eK]
                exact gK
              · dsimp only
                rw [List.length_append, eV]
                exact gV
              · intro j hj hv
                rcases hv.1 with e | e
                · exact nKV j hj e
                · have := hj.2; omega
              · intro j hj hv
                rcases hj.1 with e | e
                · exact ap.ki j e hv
                · have := tp j (Or.inr (Or.inr hv)); omega
              · intro j hj hv
                rcases hj.1 with e | e
                · exact ap.vi j e hv
                · have := tp j (Or.inr (Or.inr hv)); omega
              · intro j hj
                rcases hj with h1 | h1 | h1
                · have := h1.2; omega
                · have := h1.2; omega
                · have := tp j (Or.inr (Or.inr h1)); omega
            · exact c10.keeps (hq9.keeps (c7.keeps (hq6.keeps b0r (fun e => by have := ap.k _ e; omega)) (by omega)) (fun e => by have := ap.v _ e; omega)) (by omega)
            · exact (k7.chg hq9 (fun i hi e => by have := ap.v i e; omega)).chg c10 (fun i hi e => by omega)
    · have HTt : Hid (T = t) := HK.out (by omega)
      obtain rfl : k = n := by omega
      go_wp2_with fail
      have hc4 := chg4 (Bl.refl wr) D (.bool true) (.slice ka t.keys.length kc) (.slice va t.values.length vc) (.slice ia t.kids.length ic)
      refine bodyPost_ret (v := .tuple #[.agg #[.bool true, .slice ka t.keys.length kc, .slice va t.values.length vc, .slice ia t.kids.length ic], .bool true]) (by simp [results, Try.results60, go_sem, *]) rfl ?_
      exact ⟨_, _, _, rfl, qd_fin HD.out hst kwr hc4, Or.inl ⟨rfl, by rw [HTt.out]; exact he, by rw [HTt.out]⟩⟩
end Go.Proofs.Ytjdkalimaldofaa
