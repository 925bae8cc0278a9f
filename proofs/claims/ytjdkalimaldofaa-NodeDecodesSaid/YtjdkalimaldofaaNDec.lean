/-
  Decode: the walk.
-/
import Derived.Test.YtjdkalimaldofaaNRd4
import Derived.Test.YtjdkalimaldofaaNEqual
namespace Go.Proofs.Ytjdkalimaldofaa
open Go.RowKit
set_option linter.unusedSimpArgs false
set_option linter.unusedVariables false
theorem Bl.chg {w a b : World} {own : Nat → Prop} (h : Bl w a) (c : Chg own a b) (ho : ∀ i, i < w.heap.size → ¬ own i) : Bl w b := Below.trans h (c.below h.size ho)
set_option maxRecDepth 100000 in
set_option maxHeartbeats 4000000 in
theorem decode_any (w : World) (own : Nat → Prop) (x : Value) (xs : List Int) (size : Nat) (hx : RdAt w own 1 x xs.length (bcells xs)) (hs : sizeOk size = true) (hl : xs.length = size) :
    Calls Try.prog 21 #[.int .i64 size, x] w fun e w' => (∃ u c, e = .returned (.tuple #[u, .int .i64 c]) ∧ ((pOk size xs ∧ c = 0 ∧ NodeAt w' (fun k => w.heap.size ≤ k) u (pNode (strOfNums xs))) ∨ (¬ pOk size xs ∧ c = 90 ∧ NodeAt w' (fun k => w.heap.size ≤ k) u .empty))) ∧ Bl w w' := by
  have hsz : 512 ≤ size ∧ size ≤ 4096 := by
    simp only [sizeOk, Bool.or_eq_true, decide_eq_true_eq] at hs
    omega
  have hS : (strOfNums xs).size ≤ 8192 := by rw [strOfNums_size]; omega
  obtain ⟨xa, xc, rfl, -⟩ := hx.shape
  have hx := hx.mono (own2 := fun j => own j ∧ j < w.heap.size) (fun j hj e => ⟨e, hj⟩)
  have hx0 := hx
  rw [hl] at hx
  have hne : ((size : Int) != (size : Int)) = false := by simp
  have kW : Bl w (w.alloc (.cells #[.bool false, .slice none 0 0, .slice none 0 0, .slice none 0 0] 25)) := (Bl.refl w).alloc _
  have b0 : (w.alloc (.cells #[.bool false, .slice none 0 0, .slice none 0 0, .slice none 0 0] 25)).heap[w.heap.size]? = some (.cells #[.bool false, .slice none 0 0, .slice none 0 0, .slice none 0 0] 25 (0, 0)) := block_new _ _
  have z0 : w.heap.size < (w.alloc (.cells #[.bool false, .slice none 0 0, .slice none 0 0, .slice none 0 0] 25)).heap.size := by simp
  have hx1 := hx0.below kW
  go_enter Try.func21, Try.ntmps21
  go_wp2_with fail
  generalize w.alloc (.cells #[.bool false, .slice none 0 0, .slice none 0 0, .slice none 0 0] 25) = w1 at *
  refine (sizeright_any _ size (by omega) (by omega)).mono ?_
  rintro e w2 ⟨rfl, hw2⟩
  rw [hw2]
  clear hw2 w2
  rw [hl]
  have hcv := conv_str w1 _ _ xs hx1
  rw [hl] at hcv
  rw [hs]
  go_wp2_with fail
  have hnr := newreader_any w1 (strOfNums xs)
  obtain ⟨S, hS'⟩ : ∃ S, S = strOfNums xs := ⟨_, rfl⟩
  have HS := Lib.hid hS'
  rw [← hS'] at hnr hS hcv ⊢
  clear hS' hcv
  obtain ⟨rb, hrb⟩ : ∃ rb, rb = w1.heap.size := ⟨_, rfl⟩
  rw [← hrb] at hnr
  refine hnr.mono ?_
  rintro x w2 ⟨rfl, r2, k2⟩
  have K2 : Bl w w2 := kW.trans k2
  have nDb : ¬ w.heap.size = rb := by omega
  have hlo : ∀ i, i < w.heap.size → ¬ i = rb := fun i hi e => by omega
  have hx2 := hx.below K2
  have b2 := below_keeps k2 b0 z0
  have nX : ∀ j, own j ∧ j < w.heap.size → ¬ j = rb := fun j hj e => by omega
  have HLO := Lib.hid (And.intro nDb hlo)
  have HRB := Lib.hid hrb
  have NX := Lib.hid nX
  clear b0 hx1 kW k2 z0 hnr hrb hlo nDb nX
  go_wp2_with fail
  refine (rdraw_any _ rb _ _ 4 r2 hS).mono ?_
  rintro x w3 ⟨rfl, r3, c3⟩
  have r3 : Rdr w3 rb (pr1 S).s (pr1 S).e := r3
  go_wp2_with fail
  refine (rdu8_any _ rb _ _ r3 (Nat.le_trans (pr1_le S) hS)).mono ?_
  rintro x w4 ⟨rfl, r4, c4⟩
  go_wp2_with fail
  refine (rdu8_any _ rb _ _ r4 (Nat.le_trans (rawS_le _ _ _) (Nat.le_trans (pr1_le S) hS))).mono ?_
  rintro x w5 ⟨rfl, r5, c5⟩
  have r5 : Rdr w5 rb (pr3 S).s (pr3 S).e := r5
  go_wp2_with fail
  obtain ⟨kn, hkn⟩ := Int.eq_ofNat_of_zero_le (pKeys_in S).1
  have hkn' : rdNum (pr3 S).s (pr3 S).e 2 = (kn : Int) := hkn
  have hk0 : (0 : Int) ≤ (kn : Int) := by omega
  have hk1 : (kn : Int) ≤ 65535 := by have := (pKeys_in S).2; omega
  have hkw : IntKind.i64.wrap (kn : Int) = (kn : Int) := IntWalk.i64_in _ ⟨by omega, by omega⟩
  refine (rdu16_any _ rb _ _ r5 (Nat.le_trans (pr3_le S) hS)).mono ?_
  rw [hkn']
  rintro x w6 ⟨rfl, r6, c6⟩
  go_wp2_with fail
  refine (rdraw_any _ rb _ _ 8 r6 (Nat.le_trans (rawS_le _ _ _) (Nat.le_trans (pr3_le S) hS))).mono ?_
  rintro x w7 ⟨rfl, r7, c7⟩
  have r7 : Rdr w7 rb (pr5 S).s (pr5 S).e := r7
  go_wp2_with fail
  have hrd := read_any w7 rb (pr5 S).s (pr5 S).e kn (pKind S) r7 (Nat.le_trans (pr5_le S) hS) (by omega)
  have eN : rsNode (pKind S) (pr5 S).s (pr5 S).e kn = pNode S := by unfold pNode; rw [hkn]; rfl
  have eT : rsAny (pKind S) (pr5 S).s (pr5 S).e kn = pEnd S := by unfold pEnd; rw [hkn]; rfl
  rw [eN, eT] at hrd
  clear eN eT hkn hkn' hk0 hk1 hkw
  have cA : Chg (fun j => j = rb) w2 w7 := ((((c3.trans c4).trans c5).trans c6).trans c7)
  have b7 := cA.keeps b2 HLO.out.1
  have hx7 := hx2.chg cA NX.out
  have K7 : Bl w w7 := K2.chg cA HLO.out.2
  have smN := Lib.hid (pNode_small S)
  have lnN := Lib.hid (pNode_lens S hS)
  have HP : Hid (pOk size xs ↔ (pEnd S).r.e = 0 ∧ ((pNode S).check = 0 ∧ sizeOk size = true ∧ (pNode S).psize ≤ size) ∧ (pNode S).out size = xs) := by
    unfold Hid pOk
    rw [← HS.out]
  have HE : Hid (pNode (strOfNums xs) = pNode S) := by unfold Hid; rw [HS.out]
  generalize pNode S = N at *
  generalize pEnd S = T at *
  clear r2 r3 r4 r5 r6 c3 c4 c5 c6 c7 cA b2 hx2 K2
  refine hrd.mono ?_
  rintro x w8 ⟨⟨v, rfl, hn8, r8⟩, c8⟩
  clear hrd r7
  obtain ⟨ka, kc, va, vc, ia, ic, rfl, hn8⟩ := hn8
  unfold nodeV
  have b8 := c8.keeps b7 HLO.out.1
  have hx8 := hx7.chg c8 NX.out
  have K8 : Bl w w8 := K7.chg c8 HLO.out.2
  have A9 : Bl w8 (w8.alloc (.cells #[.bool N.leaf, .slice ka N.keys.length kc, .slice va N.values.length vc, .slice ia N.kids.length ic] 25)) := (Bl.refl _).alloc _
  have b9 := below_keeps A9 b8 (lt_of_block b8)
  have bB9 : (w8.alloc (.cells #[.bool N.leaf, .slice ka N.keys.length kc, .slice va N.values.length vc, .slice ia N.kids.length ic] 25)).heap[w8.heap.size]? = some (.cells #[.bool N.leaf, .slice ka N.keys.length kc, .slice va N.values.length vc, .slice ia N.kids.length ic] 25 (0, 0)) := block_new _ _
  have hx9 := hx8.below A9
  have r9 := r8.bl A9
  have hn9 := hn8.below A9
  have K9 := K8.trans A9
  have hM : w.heap.size < w7.heap.size := lt_of_block b7
  have hB : w.heap.size < w8.heap.size := lt_of_block b8
  have hn9 : NodeIn _ (fun j => w.heap.size < j) N ka kc va vc ia ic := hn9.mono (fun j _ hj => Nat.lt_of_lt_of_le hM hj)
  clear b7 b8 hx7 hx8 K7 c8 r8 hn8 hM
  go_wp2_with fail
  generalize hW9 : w8.alloc (.cells #[.bool N.leaf, .slice ka N.keys.length kc, .slice va N.values.length vc, .slice ia N.kids.length ic] 25) = w9 at *
  clear hW9
  generalize w8.heap.size = B at *
  refine (err_any _ rb _ _ r9).mono ?_
  rintro x w10 ⟨rfl, hw10⟩
  rw [hw10]
  clear hw10 w10
  obtain ⟨y0, y1, y2, y3, f0, f1, f2, f3⟩ := cells4 b9
  by_cases he : T.r.e = 0
  · have heb : (T.r.e != 0) = false := by simp [he]
    obtain ⟨x0, x1, x2, x3, -⟩ := cells4 bB9
    go_wp2_with fail
    clear y0 y1 y2 y3 f0 f1 f2 f3 x0 x1 x2 x3
    by_cases hgood : N.check = 0 ∧ sizeOk size = true ∧ N.psize ≤ size
    · refine (encode_ok w9 _ _ N size ⟨_, _, _, _, _, _, rfl, hn9⟩ smN.out lnN.out hgood.1 hs hgood.2.2).mono ?_
      rintro e w10 ⟨⟨q, rfl, hq⟩, k10⟩
      obtain ⟨qa, qc, rfl, -⟩ := hq.shape
      have b10 := below_keeps k10 b9 (lt_of_block b9)
      have bB10 := below_keeps k10 bB9 (lt_of_block bB9)
      have hx10 := hx9.below k10
      have hn10 := hn9.below k10
      have K10 := K9.trans k10
      have HG := Lib.hid hgood
      have HE0 := Lib.hid he
      clear b9 bB9 hx9 r9 hn9 K9 k10 A9 hgood he
      go_wp2_with fail
      refine (equal_any w10 _ _ _ _ size size (N.out size) xs hq hx10).mono ?_
      rintro e w11 ⟨rfl, k11⟩
      have b11 := below_keeps k11 b10 (lt_of_block b10)
      have bB11 := below_keeps k11 bB10 (lt_of_block bB10)
      have hn11 := hn10.below k11
      have K11 := K10.trans k11
      clear b10 bB10 hx10 hn10 K10 k11 hq
      obtain ⟨y0, y1, y2, y3, f0, f1, f2, f3⟩ := cells4 b11
      obtain ⟨x0, x1, x2, x3, -⟩ := cells4 bB11
      by_cases hq : N.out size = xs
      · have hqb : decide (N.out size = xs) = true := by simpa using hq
        have hyes : pOk size xs := HP.out.2 ⟨HE0.out, HG.out, hq⟩
        go_wp2_with fail
        have hc4 := chg4 (Bl.refl w11) w.heap.size (.bool N.leaf) (.slice ka N.keys.length kc) (.slice va N.values.length vc) (.slice ia N.kids.length ic)
        refine bodyPost_ret (v := .tuple #[.agg #[.bool N.leaf, .slice ka N.keys.length kc, .slice va N.values.length vc, .slice ia N.kids.length ic], .int .i64 0]) (by simp [results, Try.results21, go_sem, *]) rfl ?_
        refine ⟨⟨_, _, rfl, Or.inl ⟨hyes, rfl, ?_⟩⟩, K11.chg hc4 (fun i hi e => by omega)⟩
        rw [HE.out]
        exact ⟨_, _, _, _, _, _, rfl, (hn11.chg hc4 (fun j hj e => by omega)).mono (fun j _ hj => Nat.le_of_lt hj)⟩
      · have hqb : decide (N.out size = xs) = false := by simpa using hq
        have hno : ¬ pOk size xs := fun c => hq (HP.out.1 c).2.2
        go_wp2_with fail
        have hc4 := chg4 (Bl.refl w11) w.heap.size (.bool false) (.slice none 0 0) (.slice none 0 0) (.slice none 0 0)
        refine bodyPost_ret (v := .tuple #[.agg #[.bool false, .slice none 0 0, .slice none 0 0, .slice none 0 0], .int .i64 90]) (by simp [results, Try.results21, go_sem, *]) rfl ?_
        exact ⟨⟨_, _, rfl, Or.inr ⟨hno, rfl, NodeAt.empty _ _⟩⟩, K11.chg hc4 (fun i hi e => by omega)⟩
    · have hno : ¬ pOk size xs := fun c => hgood (HP.out.1 c).2.1
      have hne2 : (encErr N size != 0) = true := by simpa using encErr_ne N size
      refine (encode_err w9 _ _ N size (by omega) (by omega) ⟨_, _, _, _, _, _, rfl, hn9⟩ smN.out lnN.out hgood).mono ?_
      rintro e w10 ⟨rfl, k10⟩
      have b10 := below_keeps k10 b9 (lt_of_block b9)
      have K10 := K9.trans k10
      clear b9 bB9 hx9 r9 hn9 K9 k10 A9 hgood he
      obtain ⟨y0, y1, y2, y3, f0, f1, f2, f3⟩ := cells4 b10
      go_wp2_with fail
      have hc4 := chg4 (Bl.refl w10) w.heap.size (.bool false) (.slice none 0 0) (.slice none 0 0) (.slice none 0 0)
      refine bodyPost_ret (v := .tuple #[.agg #[.bool false, .slice none 0 0, .slice none 0 0, .slice none 0 0], .int .i64 90]) (by simp [results, Try.results21, go_sem, *]) rfl ?_
      exact ⟨⟨_, _, rfl, Or.inr ⟨hno, rfl, NodeAt.empty _ _⟩⟩, K10.chg hc4 (fun i hi e => by omega)⟩
  · have heb : (T.r.e != 0) = true := by simpa using he
    have hno : ¬ pOk size xs := fun c => he (HP.out.1 c).1
    go_wp2_with fail
    have hc4 := chg4 (Bl.refl w9) w.heap.size (.bool false) (.slice none 0 0) (.slice none 0 0) (.slice none 0 0)
    refine bodyPost_ret (v := .tuple #[.agg #[.bool false, .slice none 0 0, .slice none 0 0, .slice none 0 0], .int .i64 90]) (by simp [results, Try.results21, go_sem, *]) rfl ?_
    exact ⟨⟨_, _, rfl, Or.inr ⟨hno, rfl, NodeAt.empty _ _⟩⟩, K9.chg hc4 (fun i hi e => by omega)⟩
end Go.Proofs.Ytjdkalimaldofaa
