/-
  Put of a leaf: the document's, the walk.
-/
import Derived.Test.YtjdkalimaldofaaNRCopySl
import Derived.Test.YtjdkalimaldofaaNFind3
import Derived.Test.YtjdkalimaldofaaNSpoilt
import Derived.Test.YtjdkalimaldofaaNCheck
import Derived.Deep.Cut
namespace Go.Proofs.Ytjdkalimaldofaa
open Go.RowKit
set_option linter.unusedSimpArgs false
set_option linter.unusedVariables false
theorem rd_key {W : World} {g : Nat} {key : ByteArray} (h : W.heap[g]? = some (.cells #[.string key] 9 (0, 0))) : RdAt W (fun _ => True) 1 (.slice (some ⟨g, 0, none⟩) 1 1) 1 (tcells [key]) := by
  refine ⟨rfl, _, 1, rfl, Nat.le_refl _, by unfold maxLen; omega, fun _ => ⟨g, 0, rfl, trivial, lt_of_block h, fun j u hj => ?_⟩⟩
  rw [cell_of_block h, Nat.zero_add]
  simpa [tcells] using hj
theorem node_of {w' : World} {own : Nat → Prop} {lf : Bool} {ks vs : List ByteArray} {is : List Int} {a b c : Nat} {ka : Option Addr} {kc : Nat} {va : Option Addr} {vc : Nat} {ia : Option Addr} {ic : Nat}
    (ha : ks.length = a) (hb : vs.length = b) (hc : is.length = c) (h1 : RdAt w' own 1 (.slice ka a kc) a (tcells ks)) (h2 : RdAt w' own 1 (.slice va b vc) b (tcells vs)) (h3 : RdAt w' own 1 (.slice ia c ic) c (icells is)) : NodeAt w' own (.agg #[.bool lf, .slice ka a kc, .slice va b vc, .slice ia c ic]) ⟨lf, ks, vs, is⟩ := by
  subst ha hb hc
  exact ⟨ka, kc, va, vc, ia, ic, rfl, ⟨h1, h2, h3⟩⟩
theorem keep_new {a b : World} (k : Bl a b) {g : Nat} {o : Obj} (h : a.heap[g]? = some o) : b.heap[g]? = some o := below_keeps k h (lt_of_block h)
set_option maxRecDepth 100000 in
set_option maxHeartbeats 4000000 in
theorem rput_leaf (w : World) (own : Nat → Prop) (v : Value) (n : ND) (key value : ByteArray) (hv : NodeAt w own v n) (sm : n.Small) (ln : n.Lens) (hck : n.check = 0) (hf : n.leaf = true) (hk : keyOk key = true) (hx : valOk value = true) (hroom : n.keys.length ≤ 8796093022207) :
    Calls Try.prog 26 #[v, .string key, .string value] w fun e w' => (∃ u r, e = .returned (.tuple #[u, .int .i64 0]) ∧ n.at key r ∧ NodeAt w' (fun j => w.heap.size ≤ j) u (n.put key value r)) ∧ Bl w w' := by
  have hv' := hv
  obtain ⟨ka, kc, va, vc, ia, ic, rfl, h⟩ := hv
  unfold nodeV
  unfold nodeV at hv'
  rw [hf] at hv' ⊢
  have h := h.mono (own2 := fun j => own j ∧ j < w.heap.size) (fun j hj e => ⟨e, hj⟩)
  simp only [keyOk, valOk, Bool.and_eq_true, decide_eq_true_eq] at hk hx
  have q1 : ¬ (key.size : Int) < 1 := by omega
  have q2 : ¬ (64 : Int) < (key.size : Int) := by omega
  have q3 : ¬ (64 : Int) < (value.size : Int) := by omega
  obtain ⟨hl, hsh, -⟩ := ND.check_zero hck
  have HFM := Lib.hid (ND.form_leaf (ND.shape_form hsh) hf)
  have HF := Lib.hid hf
  have kB : Bl w ((w.alloc (.cells #[.bool true, .slice ka n.keys.length kc, .slice va n.values.length vc, .slice ia n.kids.length ic] 25)).alloc (.cells #[.bool false, .slice none 0 0, .slice none 0 0, .slice none 0 0] 25)) := ((Bl.refl w).alloc _).alloc _
  have b3 : ((w.alloc (.cells #[.bool true, .slice ka n.keys.length kc, .slice va n.values.length vc, .slice ia n.kids.length ic] 25)).alloc (.cells #[.bool false, .slice none 0 0, .slice none 0 0, .slice none 0 0] 25)).heap[w.heap.size]? = some (.cells #[.bool true, .slice ka n.keys.length kc, .slice va n.values.length vc, .slice ia n.kids.length ic] 25 (0, 0)) := block_old _ (block_new _ _)
  have b6 : ((w.alloc (.cells #[.bool true, .slice ka n.keys.length kc, .slice va n.values.length vc, .slice ia n.kids.length ic] 25)).alloc (.cells #[.bool false, .slice none 0 0, .slice none 0 0, .slice none 0 0] 25)).heap[w.heap.size + 1]? = some (.cells #[.bool false, .slice none 0 0, .slice none 0 0, .slice none 0 0] 25 (0, 0)) := block_new' _ (by simp)
  have hA := hv'.bl kB
  have hin := h.below kB
  have HCK := Lib.hid hck
  obtain ⟨i9, hi9, hz90, hz91, hz92⟩ := info_parts info9
  clear hl hsh h hf hck hk hx
  obtain ⟨x0, x1, x2, x3, -⟩ := cells4 b3
  go_enter Try.func26, Try.ntmps26
  go_wp2_with fail
  generalize (w.alloc (.cells #[.bool true, .slice ka n.keys.length kc, .slice va n.values.length vc, .slice ia n.kids.length ic] 25)).alloc (.cells #[.bool false, .slice none 0 0, .slice none 0 0, .slice none 0 0] 25) = W1 at *
  refine (rcheck_any _ _ _ n hA sm ln).mono ?_
  rw [HCK.out]
  rintro e w2 ⟨rfl, k2⟩
  have b32 := below_keeps k2 b3 (lt_of_block b3)
  have b62 := below_keeps k2 b6 (lt_of_block b6)
  have hA2 := hA.bl k2
  have hin2 := hin.below k2
  have K2 := kB.trans k2
  clear x0 x1 x2 x3 b3 b6 hA kB k2 hin
  obtain ⟨x0, x1, x2, x3, -⟩ := cells4 b32
  go_wp2_with fail
  refine (rfindleaf_any w2 _ _ n key hA2 sm HF.out).mono ?_
  rintro e w3 ⟨⟨r, rfl, hat⟩, k3⟩
  have b33 := below_keeps k3 b32 (lt_of_block b32)
  have b63 := below_keeps k3 b62 (lt_of_block b62)
  have hA3 := hA2.bl k3
  have hin3 := hin2.below k3
  have K3 := K2.trans k3
  have HAT := Lib.hid hat
  have hrl := hat.le
  have r0 : (0 : Int) ≤ (r : Int) := by omega
  clear x0 x1 x2 x3 b32 b62 hA2 K2 k3 hin2 hat
  obtain ⟨x0, x1, x2, x3, -⟩ := cells4 b33
  go_wp2_with fail
  refine (rcopy_sl w3 _ _ n hA3 sm).mono ?_
  rintro e w4 ⟨⟨ka2, kc2, va2, vc2, ia2, ic2, K, V, I, rfl, hsl, hap, htop⟩, k4⟩
  unfold nodeV
  rw [HF.out]
  clear x0 x1 x2 x3
  have A5 : Bl w4 (w4.alloc (.cells #[.bool true, .slice ka2 n.keys.length kc2, .slice va2 n.values.length vc2, .slice ia2 n.kids.length ic2] 25)) := (Bl.refl _).alloc _
  have b8 : (w4.alloc (.cells #[.bool true, .slice ka2 n.keys.length kc2, .slice va2 n.values.length vc2, .slice ia2 n.kids.length ic2] 25)).heap[w4.heap.size]? = some (.cells #[.bool true, .slice ka2 n.keys.length kc2, .slice va2 n.values.length vc2, .slice ia2 n.kids.length ic2] 25 (0, 0)) := block_new _ _
  have b36 := below_keeps (k4.trans A5) b33 (lt_of_block b33)
  have b66 := below_keeps (k4.trans A5) b63 (lt_of_block b63)
  have K6 := (K3.trans k4).trans A5
  have hk6 := hsl.keys.below A5
  have hv6 := hsl.values.below A5
  have hi6 := hsl.kids.below A5
  have hin6 := hin3.below (k4.trans A5)
  have l2 : w.heap.size + 1 < w3.heap.size := lt_of_block b63
  have l24 := k4.size
  have l8 : w4.heap.size < (w4.alloc (.cells #[.bool true, .slice ka2 n.keys.length kc2, .slice va2 n.values.length vc2, .slice ia2 n.kids.length ic2] 25)).heap.size := lt_of_block b8
  have ap := Lib.hid hap
  have tp := Lib.hid htop
  have HH := Lib.hid hroom
  clear b33 b63 hA3 K3 k4 hsl hap htop hin3 hroom A5
  by_cases hfi : n.finds key r = true
  · rw [hfi]
    go_upto_region 8 with fail
    generalize hW6 : w4.alloc (.cells #[.bool true, .slice ka2 n.keys.length kc2, .slice va2 n.values.length vc2, .slice ia2 n.kids.length ic2] 25) = w6 at *
    generalize hD8 : w4.heap.size = D8 at *
    clear hW6
    have l6 : w.heap.size + 1 < D8 := by omega
    have hrn : r < n.values.length := by
      have hq := hfi
      unfold ND.finds at hq
      rw [Bool.and_eq_true, decide_eq_true_eq] at hq
      have := HFM.out.1
      omega
    obtain ⟨g, off, y, rfl, hVg, hcell, hfree, hset⟩ := sl_put hv6 hrn
    have HP : Hid (n.put key value r = ⟨true, n.keys, n.values.set r value, n.kids⟩) := by
      unfold Hid ND.put
      rw [if_pos hfi, HF.out]
    have r1 : (r : Int) < (n.values.length : Int) := by omega
    have hgD : g < D8 := tp.out g (Or.inr (Or.inl hVg))
    have hgM := ap.out.v g hVg
    have n1 : ¬ g = D8 := by omega
    have n2 : ¬ D8 = g := by omega
    have n3 : ¬ g = w.heap.size + 1 := by omega
    have n4 : ¬ w.heap.size + 1 = g := by omega
    have n5 : ¬ w.heap.size + 1 = D8 := by omega
    have n6 : ¬ D8 = w.heap.size + 1 := by omega
    obtain ⟨x0, x1, x2, x3, -⟩ := cells4 b8
    obtain ⟨y0, y1, y2, y3, f0, f1, f2, f3⟩ := cells4 b66
    have HSET := Lib.hid hset
    clear hset hfi
    go_wp2_with fail
    have hvs := HSET.out (.string value)
    rw [tcells_set] at hvs
    have cG : Chg (fun j => j = g) w6 (w6.setCell ⟨g, off + r, none⟩ (.string value)) := (Chg.refl _ _).setCell _ _ (fun _ => rfl)
    have hc4 := chg4 (Bl.refl (w6.setCell ⟨g, off + r, none⟩ (.string value))) (w.heap.size + 1) (.bool true) (.slice ka2 n.keys.length kc2) (.slice (some ⟨g, off, none⟩) n.values.length vc2) (.slice ia2 n.kids.length ic2)
    refine bodyPost_ret (v := .tuple #[.agg #[.bool true, .slice ka2 n.keys.length kc2, .slice (some ⟨g, off, none⟩) n.values.length vc2, .slice ia2 n.kids.length ic2], .int .i64 0]) (by simp [results, Try.results26, go_sem, *]) rfl ?_
    have ap := ap.out
    have tp := tp.out
    have hs := cG.size
    have hs2 := hc4.size
    refine ⟨⟨_, r, rfl, HAT.out, ?_⟩, (K6.chg cG (fun i hi e => by omega)).chg hc4 (fun i hi e => by omega)⟩
    rw [HP.out]
    exact (own_of rfl List.length_set rfl ((hk6.chg cG (fun j hj e => ap.kv j hj (e ▸ hVg))).chg hc4 (fun j hj e => by have := ap.k j hj; omega)) (hvs.chg hc4 (fun j hj e => by have := ap.v j hj; omega)) ((hi6.chg cG (fun j hj e => ap.vi j (e ▸ hVg) hj)).chg hc4 (fun j hj e => by have := ap.i j hj; omega)) (ap.low (by omega)) (fun j hj => by have := tp j hj; omega)).at
  · have hfb : n.finds key r = false := by simpa using hfi
    rw [hfb]
    have HP : Hid (n.put key value r = ⟨true, n.keys.take r ++ key :: n.keys.drop r, n.values.take r ++ value :: n.values.drop r, n.kids⟩) := by
      unfold Hid ND.put
      rw [if_neg hfi, HF.out]
    have hrlv : r ≤ n.values.length := by have := HFM.out.1; omega
    clear hfi hfb
    obtain ⟨x0, x1, x2, x3, -⟩ := cells4 b36
    go_wp2_with fail
    generalize hW6 : w4.alloc (.cells #[.bool true, .slice ka2 n.keys.length kc2, .slice va2 n.values.length vc2, .slice ia2 n.kids.length ic2] 25) = w6 at *
    generalize hD8 : w4.heap.size = D8 at *
    clear hW6 x0 x1 x2 x3 hv6 hk6
    have l6 : w.heap.size + 1 < D8 := by omega
    have HKM : Hid (n.keys.length + 1 ≤ 8796093022208 ∧ n.values.length + 1 ≤ 8796093022208 ∧ r ≤ n.keys.length ∧ r ≤ n.values.length) := ⟨by have := HH.out; omega, by have := HH.out; have := HFM.out.1; omega, hrl, hrlv⟩
    have L6 := Lib.hid l6
    have LW6 : Hid (D8 < w6.heap.size) := l8
    have hdl : D8 < w6.heap.size := l8
    have hdw : w.heap.size < w6.heap.size := by omega
    have hww : w.heap.size + 1 < w6.heap.size := by omega
    obtain ⟨kta, ktc, hktr, hkt⟩ := slice_to Try.underlying22 hi9 hz91 hin6.keys hrl
    obtain ⟨kfa, kfc, hkfr, hkf⟩ := slice_from Try.underlying22 hi9 hz91 hin6.keys hrl
    obtain ⟨vta, vtc, hvtr, hvt⟩ := slice_to Try.underlying22 hi9 hz91 hin6.values hrlv
    obtain ⟨vfa, vfc, hvfr, hvf⟩ := slice_from Try.underlying22 hi9 hz91 hin6.values hrlv
    rw [tcells_take] at hkt hvt
    rw [tcells_drop] at hkf hvf
    have FKT : Hid (∀ w', Bl w6 w' → RdAt w' (fun j => own j ∧ j < w.heap.size) 1 (.slice kta r ktc) r (tcells (n.keys.take r))) := fun w' k => hkt.below k
    have FKF : Hid (∀ w', Bl w6 w' → RdAt w' (fun j => own j ∧ j < w.heap.size) 1 (.slice kfa (n.keys.length - r) kfc) (n.keys.length - r) (tcells (n.keys.drop r))) := fun w' k => hkf.below k
    have FVT : Hid (∀ w', Bl w6 w' → RdAt w' (fun j => own j ∧ j < w.heap.size) 1 (.slice vta r vtc) r (tcells (n.values.take r))) := fun w' k => hvt.below k
    have FVF : Hid (∀ w', Bl w6 w' → RdAt w' (fun j => own j ∧ j < w.heap.size) 1 (.slice vfa (n.values.length - r) vfc) (n.values.length - r) (tcells (n.values.drop r))) := fun w' k => hvf.below k
    have FK1 : Hid (∀ w', Bl w6 w' → w'.cell? ⟨w.heap.size, 1, none⟩ = some (.slice ka n.keys.length kc)) := fun w' k => (cells4 (below_keeps k b36 (lt_of_block b36))).2.1
    have FS1 : Hid (∀ w' u, Bl w6 w' → (w'.setCell ⟨D8, 1, none⟩ u).cell? ⟨w.heap.size, 1, none⟩ = some (.slice ka n.keys.length kc)) := fun w' u k => (World.cell?_setCell_other _ _ _ _ (fun e => by injection e with e1; omega)).trans ((cells4 (below_keeps k b36 (lt_of_block b36))).2.1)
    have HVT := Lib.hid hvtr
    have HVF := Lib.hid hvfr
    clear hkt hkf hvt hvf hvtr hvfr hin6
    go_region_held3 (fun w' => w'.cell? ⟨w.heap.size, 1, none⟩ = some (.slice ka n.keys.length kc)) (first | exact FS1.out _ _ (by ((repeat (first | with_reducible exact Bl.refl _ | with_reducible exact k9 | with_reducible exact k8 | with_reducible exact k7 | with_reducible refine Bl.alloc ?_ _ | with_reducible refine Bl.drew ?_)); done)) | exact FK1.out _ (by ((repeat (first | with_reducible exact Bl.refl _ | with_reducible exact k9 | with_reducible exact k8 | with_reducible exact k7 | with_reducible refine Bl.alloc ?_ _ | with_reducible refine Bl.drew ?_)); done))) ((first | (refine step_append_sl rfl (.tmp 57) (.tmp 61) 22 rfl 9 i9 (.string ⟨#[]⟩) 1 16 Try.underlying22 hi9 hz90 hz91 hz92 rfl (fun j => w6.heap.size ≤ j) _ (r + 1) (tcells (n.keys.take r) ++ tcells [key]) rfl (g8.below (by ((repeat (first | with_reducible exact Bl.refl _ | with_reducible refine Bl.alloc ?_ _ | with_reducible refine Bl.drew ?_)); done))) (fun j => own j ∧ j < w.heap.size) _ (n.keys.length - r) (tcells (n.keys.drop r)) rfl (FKF.out _ (by ((repeat (first | with_reducible exact Bl.refl _ | with_reducible exact k9 | with_reducible exact k8 | with_reducible exact k7 | with_reducible refine Bl.alloc ?_ _ | with_reducible refine Bl.drew ?_)); done))) (tcells_one _) ?_ ?_ ?_; (have := HKM.out; unfold maxLen; omega); (have := HKM.out; omega); intro v9 w9 hs hc; obtain ⟨a9, cap9, rfl⟩ := hs.shape; (have k9 : Bl w6 w9 := Bl.chg (by ((repeat (first | with_reducible exact Bl.refl _ | with_reducible exact k9 | with_reducible exact k8 | with_reducible exact k7 | with_reducible refine Bl.alloc ?_ _ | with_reducible refine Bl.drew ?_)); done)) hc (fun i hi e => by omega)); (have g9 := hs.mono (own2 := fun j => w6.heap.size ≤ j) (fun j hj e => by rcases e with e | e; exact e; rw [e]; exact bl_size (by ((repeat (first | with_reducible exact Bl.refl _ | with_reducible exact k9 | with_reducible exact k8 | with_reducible exact k7 | with_reducible refine Bl.alloc ?_ _ | with_reducible refine Bl.drew ?_)); done)))); clear hs hc; (have b9 := below_keeps k9 b8 (lt_of_block b8)); obtain ⟨x0, x1, x2, x3, f0, f1, f2, f3⟩ := cells4 b9) | (refine step_append_sl rfl (.tmp 49) (.tmp 53) 22 rfl 9 i9 (.string ⟨#[]⟩) 1 16 Try.underlying22 hi9 hz90 hz91 hz92 rfl (fun _ => False) _ 0 [] rfl (SlAt.nil _ _ _ _ _) (fun j => own j ∧ j < w.heap.size) _ r (tcells (n.keys.take r)) rfl (FKT.out _ (by ((repeat (first | with_reducible exact Bl.refl _ | with_reducible exact k9 | with_reducible exact k8 | with_reducible exact k7 | with_reducible refine Bl.alloc ?_ _ | with_reducible refine Bl.drew ?_)); done))) (tcells_one _) ?_ ?_ ?_; (have := HKM.out; unfold maxLen; omega); (have := HKM.out; omega); intro v7 w7 hs hc; rw [Nat.zero_add, List.nil_append] at hs; obtain ⟨a7, cap7, rfl⟩ := hs.shape; (have k7 : Bl w6 w7 := Bl.chg (by ((repeat (first | with_reducible exact Bl.refl _ | with_reducible exact k9 | with_reducible exact k8 | with_reducible exact k7 | with_reducible refine Bl.alloc ?_ _ | with_reducible refine Bl.drew ?_)); done)) hc (fun i hi e => e)); (have g7 := hs.mono (own2 := fun j => w6.heap.size ≤ j) (fun j hj e => by rcases e with e | e; exact e.elim; rw [e]; exact bl_size (by ((repeat (first | with_reducible exact Bl.refl _ | with_reducible exact k9 | with_reducible exact k8 | with_reducible exact k7 | with_reducible refine Bl.alloc ?_ _ | with_reducible refine Bl.drew ?_)); done)))); (have kk7 := hc.below (Nat.le_refl _) (fun _ _ e => e)); clear hs hc) | (refine step_append_sl rfl (.tmp 54) (.tmp 56) 22 rfl 9 i9 (.string ⟨#[]⟩) 1 16 Try.underlying22 hi9 hz90 hz91 hz92 rfl (fun j => w6.heap.size ≤ j) _ r (tcells (n.keys.take r)) rfl (g7.below (by ((repeat (first | with_reducible exact Bl.refl _ | with_reducible refine Bl.alloc ?_ _ | with_reducible refine Bl.drew ?_)); done))) (fun _ => True) _ 1 (tcells [key]) rfl ?_ (tcells_one _) ?_ ?_ ?_; refine rd_key ?_; (first | exact block_new' _ (by simp) | exact block_drew (block_new' _ (by simp)) | exact keep_new kk7 (block_new' _ (by simp)) | exact keep_new kk7 (block_drew (block_new' _ (by simp))) | exact keep_new kk7 (block_old _ (block_new' _ (by simp))) | exact keep_new kk7 (block_drew (block_old _ (block_new' _ (by simp))))); (have := HKM.out; unfold maxLen; omega); (have := HKM.out; omega); intro v8 w8 hs hc; obtain ⟨a8, cap8, rfl⟩ := hs.shape; (have k8 : Bl w6 w8 := Bl.chg (by ((repeat (first | with_reducible exact Bl.refl _ | with_reducible exact k9 | with_reducible exact k8 | with_reducible exact k7 | with_reducible refine Bl.alloc ?_ _ | with_reducible refine Bl.drew ?_)); done)) hc (fun i hi e => by omega)); (have g8 := hs.mono (own2 := fun j => w6.heap.size ≤ j) (fun j hj e => by rcases e with e | e; exact e; rw [e]; exact bl_size (by ((repeat (first | with_reducible exact Bl.refl _ | with_reducible exact k9 | with_reducible exact k8 | with_reducible exact k7 | with_reducible refine Bl.alloc ?_ _ | with_reducible refine Bl.drew ?_)); done)))); clear hs hc)))
    all_goals
      have b11 : (w9.setCell ⟨D8, 1, none⟩ (.slice a9 (r + 1 + (n.keys.length - r)) cap9)).heap[D8]? = some (.cells #[.bool true, .slice a9 (r + 1 + (n.keys.length - r)) cap9, .slice va2 n.values.length vc2, .slice ia2 n.kids.length ic2] 25 (0, 0)) := by rw [block_set b9]; rfl
      have c11 : Chg (fun j => j = D8) w9 (w9.setCell ⟨D8, 1, none⟩ (.slice a9 (r + 1 + (n.keys.length - r)) cap9)) := (Chg.refl _ _).setCell _ _ (fun _ => rfl)
      generalize w9.setCell ⟨D8, 1, none⟩ (.slice a9 (r + 1 + (n.keys.length - r)) cap9) = w11 at *
      have hl6 := L6.out
      have s9 := k9.size
      have s11 := c11.size
      have b311 := c11.keeps (below_keeps k9 b36 (lt_of_block b36)) (by omega)
      have b611 := c11.keeps (below_keeps k9 b66 (lt_of_block b66)) (by omega)
      have hk11 := g9.chg c11 (fun j hj e => by omega)
      have hi11 := (hi6.below k9).chg c11 (fun j hj e => by have := tp.out _ (Or.inr (Or.inr hj)); omega)
      have K11 := (K6.trans k9).chg c11 (fun i hi e => by omega)
      have FVT2 : Hid (∀ w', Bl w11 w' → RdAt w' (fun j => own j ∧ j < w.heap.size) 1 (.slice vta r vtc) r (tcells (n.values.take r))) := fun w' k => ((FVT.out _ k9).chg c11 (fun j hj e => by omega)).below k
      have FVF2 : Hid (∀ w', Bl w11 w' → RdAt w' (fun j => own j ∧ j < w.heap.size) 1 (.slice vfa (n.values.length - r) vfc) (n.values.length - r) (tcells (n.values.drop r))) := fun w' k => ((FVF.out _ k9).chg c11 (fun j hj e => by omega)).below k
      have FK2 : Hid (∀ w', Bl w11 w' → w'.cell? ⟨w.heap.size, 2, none⟩ = some (.slice va n.values.length vc)) := fun w' k => (cells4 (below_keeps k b311 (lt_of_block b311))).2.2.1
      have FS2 : Hid (∀ w' u, Bl w11 w' → (w'.setCell ⟨D8, 2, none⟩ u).cell? ⟨w.heap.size, 2, none⟩ = some (.slice va n.values.length vc)) := fun w' u k => (World.cell?_setCell_other _ _ _ _ (fun e => by injection e with e1; omega)).trans ((cells4 (below_keeps k b311 (lt_of_block b311))).2.2.1)
      have hvtr := HVT.out
      have hvfr := HVF.out
      have hdl11 : D8 < w11.heap.size := lt_of_block b11
      have hdw11 : w.heap.size < w11.heap.size := by omega
      clear x0 x1 x2 x3 f0 f1 f2 f3 FKT FKF FVT FVF FK1 FS1 hktr hkfr k7 k8 g7 g8 kk7 b9 hl6 s9 s11 hdl hdw hww g9
      go_wp2_with fail
      go_region_held3 (fun w' => w'.cell? ⟨w.heap.size, 2, none⟩ = some (.slice va n.values.length vc)) (first | exact FS2.out _ _ (by ((repeat (first | with_reducible exact Bl.refl _ | with_reducible exact k14 | with_reducible exact k13 | with_reducible exact k12 | with_reducible refine Bl.alloc ?_ _ | with_reducible refine Bl.drew ?_)); done)) | exact FK2.out _ (by ((repeat (first | with_reducible exact Bl.refl _ | with_reducible exact k14 | with_reducible exact k13 | with_reducible exact k12 | with_reducible refine Bl.alloc ?_ _ | with_reducible refine Bl.drew ?_)); done))) ((first | (refine step_append_sl rfl (.tmp 72) (.tmp 76) 22 rfl 9 i9 (.string ⟨#[]⟩) 1 16 Try.underlying22 hi9 hz90 hz91 hz92 rfl (fun j => w11.heap.size ≤ j) _ (r + 1) (tcells (n.values.take r) ++ tcells [value]) rfl (g13.below (by ((repeat (first | with_reducible exact Bl.refl _ | with_reducible refine Bl.alloc ?_ _ | with_reducible refine Bl.drew ?_)); done))) (fun j => own j ∧ j < w.heap.size) _ (n.values.length - r) (tcells (n.values.drop r)) rfl (FVF2.out _ (by ((repeat (first | with_reducible exact Bl.refl _ | with_reducible exact k14 | with_reducible exact k13 | with_reducible exact k12 | with_reducible refine Bl.alloc ?_ _ | with_reducible refine Bl.drew ?_)); done))) (tcells_one _) ?_ ?_ ?_; (have := HKM.out; unfold maxLen; omega); (have := HKM.out; omega); intro v14 w14 hs hc; obtain ⟨a14, cap14, rfl⟩ := hs.shape; (have k14 : Bl w11 w14 := Bl.chg (by ((repeat (first | with_reducible exact Bl.refl _ | with_reducible exact k14 | with_reducible exact k13 | with_reducible exact k12 | with_reducible refine Bl.alloc ?_ _ | with_reducible refine Bl.drew ?_)); done)) hc (fun i hi e => by omega)); (have g14 := hs.mono (own2 := fun j => w11.heap.size ≤ j) (fun j hj e => by rcases e with e | e; exact e; rw [e]; exact bl_size (by ((repeat (first | with_reducible exact Bl.refl _ | with_reducible exact k14 | with_reducible exact k13 | with_reducible exact k12 | with_reducible refine Bl.alloc ?_ _ | with_reducible refine Bl.drew ?_)); done)))); clear hs hc; (have b14 := below_keeps k14 b11 (lt_of_block b11)); obtain ⟨x0, x1, x2, x3, f0, f1, f2, f3⟩ := cells4 b14) | (refine step_append_sl rfl (.tmp 64) (.tmp 68) 22 rfl 9 i9 (.string ⟨#[]⟩) 1 16 Try.underlying22 hi9 hz90 hz91 hz92 rfl (fun _ => False) _ 0 [] rfl (SlAt.nil _ _ _ _ _) (fun j => own j ∧ j < w.heap.size) _ r (tcells (n.values.take r)) rfl (FVT2.out _ (by ((repeat (first | with_reducible exact Bl.refl _ | with_reducible exact k14 | with_reducible exact k13 | with_reducible exact k12 | with_reducible refine Bl.alloc ?_ _ | with_reducible refine Bl.drew ?_)); done))) (tcells_one _) ?_ ?_ ?_; (have := HKM.out; unfold maxLen; omega); (have := HKM.out; omega); intro v12 w12 hs hc; rw [Nat.zero_add, List.nil_append] at hs; obtain ⟨a12, cap12, rfl⟩ := hs.shape; (have k12 : Bl w11 w12 := Bl.chg (by ((repeat (first | with_reducible exact Bl.refl _ | with_reducible exact k14 | with_reducible exact k13 | with_reducible exact k12 | with_reducible refine Bl.alloc ?_ _ | with_reducible refine Bl.drew ?_)); done)) hc (fun i hi e => e)); (have g12 := hs.mono (own2 := fun j => w11.heap.size ≤ j) (fun j hj e => by rcases e with e | e; exact e.elim; rw [e]; exact bl_size (by ((repeat (first | with_reducible exact Bl.refl _ | with_reducible exact k14 | with_reducible exact k13 | with_reducible exact k12 | with_reducible refine Bl.alloc ?_ _ | with_reducible refine Bl.drew ?_)); done)))); (have kk12 := hc.below (Nat.le_refl _) (fun _ _ e => e)); clear hs hc) | (refine step_append_sl rfl (.tmp 69) (.tmp 71) 22 rfl 9 i9 (.string ⟨#[]⟩) 1 16 Try.underlying22 hi9 hz90 hz91 hz92 rfl (fun j => w11.heap.size ≤ j) _ r (tcells (n.values.take r)) rfl (g12.below (by ((repeat (first | with_reducible exact Bl.refl _ | with_reducible refine Bl.alloc ?_ _ | with_reducible refine Bl.drew ?_)); done))) (fun _ => True) _ 1 (tcells [value]) rfl ?_ (tcells_one _) ?_ ?_ ?_; refine rd_key ?_; (first | exact block_new' _ (by simp) | exact block_drew (block_new' _ (by simp)) | exact keep_new kk12 (block_new' _ (by simp)) | exact keep_new kk12 (block_drew (block_new' _ (by simp))) | exact keep_new kk12 (block_old _ (block_new' _ (by simp))) | exact keep_new kk12 (block_drew (block_old _ (block_new' _ (by simp))))); (have := HKM.out; unfold maxLen; omega); (have := HKM.out; omega); intro v13 w13 hs hc; obtain ⟨a13, cap13, rfl⟩ := hs.shape; (have k13 : Bl w11 w13 := Bl.chg (by ((repeat (first | with_reducible exact Bl.refl _ | with_reducible exact k14 | with_reducible exact k13 | with_reducible exact k12 | with_reducible refine Bl.alloc ?_ _ | with_reducible refine Bl.drew ?_)); done)) hc (fun i hi e => by omega)); (have g13 := hs.mono (own2 := fun j => w11.heap.size ≤ j) (fun j hj e => by rcases e with e | e; exact e; rw [e]; exact bl_size (by ((repeat (first | with_reducible exact Bl.refl _ | with_reducible exact k14 | with_reducible exact k13 | with_reducible exact k12 | with_reducible refine Bl.alloc ?_ _ | with_reducible refine Bl.drew ?_)); done)))); clear hs hc)))
    all_goals
      have hl6 := L6.out
      have n5 : ¬ w.heap.size + 1 = D8 := by omega
      have n6 : ¬ D8 = w.heap.size + 1 := by omega
      have b614 := below_keeps k14 b611 (lt_of_block b611)
      obtain ⟨y0, y1, y2, y3, e0, e1, e2, e3⟩ := cells4 b614
      clear hvtr hvfr k12 k13 g12 g13 kk12
      go_wp2_with fail
      have c15 : Chg (fun j => j = D8) w14 (w14.setCell ⟨D8, 2, none⟩ (.slice a14 (r + 1 + (n.values.length - r)) cap14)) := (Chg.refl _ _).setCell _ _ (fun _ => rfl)
      have hc4 := chg4 (Bl.refl (w14.setCell ⟨D8, 2, none⟩ (.slice a14 (r + 1 + (n.values.length - r)) cap14))) (w.heap.size + 1) (.bool true) (.slice a9 (r + 1 + (n.keys.length - r)) cap9) (.slice a14 (r + 1 + (n.values.length - r)) cap14) (.slice ia2 n.kids.length ic2)
      refine bodyPost_ret (v := .tuple #[.agg #[.bool true, .slice a9 (r + 1 + (n.keys.length - r)) cap9, .slice a14 (r + 1 + (n.values.length - r)) cap14, .slice ia2 n.kids.length ic2], .int .i64 0]) (by simp [results, Try.results26, go_sem, *]) rfl ?_
      have s14 := k14.size
      have hkm := HKM.out
      have hlw := LW6.out
      have e1 : tcells (n.keys.take r ++ key :: n.keys.drop r) = tcells (n.keys.take r) ++ tcells [key] ++ tcells (n.keys.drop r) := by simp [tcells]
      have e2 : tcells (n.values.take r ++ value :: n.values.drop r) = tcells (n.values.take r) ++ tcells [value] ++ tcells (n.values.drop r) := by simp [tcells]
      refine ⟨⟨_, r, rfl, HAT.out, ?_⟩, ((K11.trans k14).chg c15 (fun i hi e => by omega)).chg hc4 (fun i hi e => by omega)⟩
      rw [HP.out]
      refine node_of (by simp; omega) (by simp; omega) rfl ?_ ?_ ?_
      · rw [e1]
        exact ((((hk11.below k14).chg c15 (fun j hj e => by omega)).chg hc4 (fun j hj e => by omega)).mono (fun j _ e => by omega)).rd
      · rw [e2]
        exact (((g14.chg c15 (fun j hj e => by omega)).chg hc4 (fun j hj e => by omega)).mono (fun j _ e => by omega)).rd
      · exact ((((hi11.below k14).chg c15 (fun j hj e => by have := tp.out _ (Or.inr (Or.inr hj)); omega)).chg hc4 (fun j hj e => by have := ap.out.i j hj; omega)).mono (own2 := fun j => w.heap.size ≤ j) (fun j _ e => by have := ap.out.i j e; omega)).rd
end Go.Proofs.Ytjdkalimaldofaa
