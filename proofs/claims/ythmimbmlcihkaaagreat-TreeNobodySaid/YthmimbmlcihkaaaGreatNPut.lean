/-
  Put: the program's, the walk.
-/
import Derived.Test.YthmimbmlcihkaaaGreatNIns
import Derived.Test.YthmimbmlcihkaaaGreatNFind2
import Derived.Test.YthmimbmlcihkaaaGreatNChk
namespace Go.Proofs.YthmimbmlcihkaaaGreat
open Go.RowKit
set_option linter.unusedSimpArgs false
set_option linter.unusedVariables false
set_option maxRecDepth 100000
/-- a node in memory of its own, from 'base' on -/
def OwnNode (w : World) (base : Nat) (u : Value) (m : ND) : Prop := ∃ ka kc va vc ia ic K V I, u = nodeV m ka kc va vc ia ic ∧ NodeSl w K V I m ka kc va vc ia ic ∧ Apart3 base K V I ∧ ∀ j, K j ∨ V j ∨ I j → j < w.heap.size
theorem OwnNode.at {w : World} {base : Nat} {u : Value} {m : ND} (h : OwnNode w base u m) : NodeAt w (fun j => base ≤ j) u m := by
  obtain ⟨ka, kc, va, vc, ia, ic, K, V, I, rfl, q, a, _⟩ := h
  exact ⟨_, _, _, _, _, _, rfl, q.rd a⟩
theorem OwnNode.empty (w : World) (base : Nat) : OwnNode w base (.agg #[.bool false, .slice none 0 0, .slice none 0 0, .slice none 0 0]) .empty :=
  ⟨none, 0, none, 0, none, 0, (fun _ => False), (fun _ => False), (fun _ => False), rfl, ⟨SlAt.nil _ _ _ _ _, SlAt.nil _ _ _ _ _, SlAt.nil _ _ _ _ _⟩, ⟨fun _ h => h.elim, fun _ h => h.elim, fun _ h => h.elim, fun _ h => h.elim, fun _ h => h.elim, fun _ h => h.elim⟩, fun _ h => by rcases h with h | h | h <;> exact h.elim⟩
/-- a leaf with a key -/
def ND.put (n : ND) (key value : ByteArray) (r : Nat) : ND := if n.finds key r then ⟨n.leaf, n.keys, n.values.set r value, n.kids⟩ else ⟨n.leaf, n.keys.take r ++ key :: n.keys.drop r, n.values.take r ++ value :: n.values.drop r, n.kids⟩
abbrev ND.at (n : ND) (key : ByteArray) (r : Nat) : Prop := First (fun k => !(lessB (atL n.keys k) key)) n.keys.length r
theorem sl_set {w : World} {own : Nat → Prop} {g off n cap i : Nat} {xs : List Value} {u : Value} (h : SlAt w own 9 1 (.slice (some ⟨g, off, none⟩) n cap) n xs) (hi : i < n) :
    SlAt (w.setCell ⟨g, off + i, none⟩ u) own 9 1 (.slice (some ⟨g, off, none⟩) n cap) n (xs.set i u) := by
  obtain ⟨hl, h⟩ := h
  rcases h with ⟨a', he, rfl⟩ | ⟨g', off', cap', cur, he, hK, hh, hnc, hcm, hsz, htk⟩
  · omega
  · injection he with e1 e2 e3
    injection e1 with e1
    injection e1 with e1 e4 e5
    subst e1 e3 e4
    have hb := block_set hh (off + i) u
    refine sl_of_cells hb hK (by rw [List.length_set]; omega) hnc hcm (by simp; omega) (fun j hj => ?_)
    rw [List.length_set] at hj
    rw [cell_of_block hb]
    by_cases e : j = i
    · subst e
      rw [Array.getElem?_setIfInBounds_self_of_lt (by omega)]
      simp
    · rw [Array.getElem?_setIfInBounds_ne (by omega)]
      rw [List.getElem_set_ne (by omega)]
      have : (((cur.toList.drop off).take (n * 1)))[j]? = xs[j]? := by rw [htk]
      rw [List.getElem?_take, if_pos (by omega), List.getElem?_drop, List.getElem?_eq_getElem hj] at this
      simpa using this
theorem tcells_set (l : List ByteArray) (i : Nat) (x : ByteArray) : (tcells l).set i (.string x) = tcells (l.set i x) := by simp [tcells, List.map_set]
theorem Apart3.low {M N : Nat} {K V I : Nat → Prop} (h : Apart3 M K V I) (le : N ≤ M) : Apart3 N K V I := ⟨h.kv, h.ki, h.vi, fun j q => Nat.le_trans le (h.k j q), fun j q => Nat.le_trans le (h.v j q), fun j q => Nat.le_trans le (h.i j q)⟩
theorem own_of {w' : World} {base : Nat} {K V I : Nat → Prop} {lf : Bool} {ks vs : List ByteArray} {is : List Int} {a b c : Nat} {ka : Option Addr} {kc : Nat} {va : Option Addr} {vc : Nat} {ia : Option Addr} {ic : Nat}
    (ha : ks.length = a) (hb : vs.length = b) (hc : is.length = c) (h1 : SlAt w' K 9 1 (.slice ka a kc) a (tcells ks)) (h2 : SlAt w' V 9 1 (.slice va b vc) b (tcells vs)) (h3 : SlAt w' I 3 1 (.slice ia c ic) c (icells is))
    (ap : Apart3 base K V I) (top : ∀ j, K j ∨ V j ∨ I j → j < w'.heap.size) : OwnNode w' base (.agg #[.bool lf, .slice ka a kc, .slice va b vc, .slice ia c ic]) ⟨lf, ks, vs, is⟩ := by
  subst ha hb hc
  exact ⟨ka, kc, va, vc, ia, ic, K, V, I, rfl, ⟨h1, h2, h3⟩, ap, top⟩
set_option maxRecDepth 100000 in
set_option maxHeartbeats 4000000 in
theorem put_leaf (w : World) (own : Nat → Prop) (v : Value) (n : ND) (key value : ByteArray) (hv : NodeAt w own v n) (sm : n.Small) (ln : n.Lens) (hck : n.check = 0) (hf : n.leaf = true) (hk : keyOk key = true) (hx : valOk value = true) (hroom : n.keys.length ≤ 8796093022207) :
    Calls Tryz.prog 26 #[v, .string key, .string value] w fun e w' => (∃ u r, e = .returned (.tuple #[u, .int .i64 0]) ∧ n.at key r ∧ OwnNode w' w.heap.size u (n.put key value r)) ∧ Bl w w' := by
  have hv' := hv
  obtain ⟨ka, kc, va, vc, ia, ic, rfl, h⟩ := hv
  unfold nodeV
  unfold nodeV at hv'
  rw [hf] at hv' ⊢
  have hkz : key.size ≤ 9223372036854775807 := by simp [keyOk] at hk; omega
  have hxz : value.size ≤ 9223372036854775807 := by simp [valOk] at hx; omega
  obtain ⟨hl, hsh, -⟩ := ND.check_zero hck
  have hup : ups n.keys = true := by
    unfold ND.shape at hsh
    rw [Bool.and_eq_true, Bool.and_eq_true] at hsh
    exact hsh.2
  have HFM := Lib.hid (ND.form_leaf (ND.shape_form hsh) hf)
  have HF := Lib.hid hf
  have kB : Bl w ((w.alloc (.cells #[.bool true, .slice ka n.keys.length kc, .slice va n.values.length vc, .slice ia n.kids.length ic] 61)).alloc (.cells #[.bool false, .slice none 0 0, .slice none 0 0, .slice none 0 0] 61)) := ((Bl.refl w).alloc _).alloc _
  have b3 : ((w.alloc (.cells #[.bool true, .slice ka n.keys.length kc, .slice va n.values.length vc, .slice ia n.kids.length ic] 61)).alloc (.cells #[.bool false, .slice none 0 0, .slice none 0 0, .slice none 0 0] 61)).heap[w.heap.size]? = some (.cells #[.bool true, .slice ka n.keys.length kc, .slice va n.values.length vc, .slice ia n.kids.length ic] 61 (0, 0)) := block_old _ (block_new _ _)
  have b6 : ((w.alloc (.cells #[.bool true, .slice ka n.keys.length kc, .slice va n.values.length vc, .slice ia n.kids.length ic] 61)).alloc (.cells #[.bool false, .slice none 0 0, .slice none 0 0, .slice none 0 0] 61)).heap[w.heap.size + 1]? = some (.cells #[.bool false, .slice none 0 0, .slice none 0 0, .slice none 0 0] 61 (0, 0)) := block_new' _ (by simp)
  have hA := hv'.bl kB
  have HCK := Lib.hid hck
  clear hl hsh h hf hck
  go_enter Tryz.func26, Tryz.ntmps26
  go_wp2_with fail
  generalize (w.alloc (.cells #[.bool true, .slice ka n.keys.length kc, .slice va n.values.length vc, .slice ia n.kids.length ic] 61)).alloc (.cells #[.bool false, .slice none 0 0, .slice none 0 0, .slice none 0 0] 61) = W1 at *
  obtain ⟨x0, x1, x2, x3, -⟩ := cells4 b3
  refine (check_any _ _ _ n hA sm ln).mono ?_
  rw [HCK.out]
  rintro e w2 ⟨rfl, k2⟩
  clear x0 x1 x2 x3
  go_wp2_with fail
  refine (keyRight_any _ key hkz).mono ?_
  rintro e w3 ⟨rfl, hw3⟩
  subst hw3
  rw [hk]
  go_wp2_with fail
  refine (valueRight_any _ value hxz).mono ?_
  rintro e w3 ⟨rfl, hw3⟩
  subst hw3
  rw [hx]
  have b32 := below_keeps k2 b3 (lt_of_block b3)
  have b62 := below_keeps k2 b6 (lt_of_block b6)
  have hA2 := hA.bl k2
  have K2 := kB.trans k2
  obtain ⟨x0, x1, x2, x3, -⟩ := cells4 b32
  clear b3 b6 hA kB k2
  go_wp2_with fail
  refine (copied_sl _ _ _ n hA2 sm).mono ?_
  rintro e w4 ⟨⟨ka2, kc2, va2, vc2, ia2, ic2, K, V, I, rfl, hsl, hap, htop⟩, k4⟩
  unfold nodeV
  rw [HF.out]
  clear x0 x1 x2 x3
  have A5 : Bl w4 (w4.alloc (.cells #[.bool true, .slice ka2 n.keys.length kc2, .slice va2 n.values.length vc2, .slice ia2 n.kids.length ic2] 61)) := (Bl.refl _).alloc _
  have b8 : (w4.alloc (.cells #[.bool true, .slice ka2 n.keys.length kc2, .slice va2 n.values.length vc2, .slice ia2 n.kids.length ic2] 61)).heap[w4.heap.size]? = some (.cells #[.bool true, .slice ka2 n.keys.length kc2, .slice va2 n.values.length vc2, .slice ia2 n.kids.length ic2] 61 (0, 0)) := block_new _ _
  have b35 := below_keeps (k4.trans A5) b32 (lt_of_block b32)
  have b65 := below_keeps (k4.trans A5) b62 (lt_of_block b62)
  have hA5 := hA2.bl (k4.trans A5)
  have K5 := (K2.trans k4).trans A5
  have hsl5 := And.intro (hsl.keys.below A5) (And.intro (hsl.values.below A5) (hsl.kids.below A5))
  have l6 : w.heap.size + 1 < w2.heap.size := lt_of_block b62
  have l24 := k4.size
  obtain ⟨x0, x1, x2, x3, -⟩ := cells4 b35
  clear b32 b62 hA2 K2 k4 hsl
  go_wp2_with fail
  generalize hW5 : w4.alloc (.cells #[.bool true, .slice ka2 n.keys.length kc2, .slice va2 n.values.length vc2, .slice ia2 n.kids.length ic2] 61) = w5 at *
  generalize hD8 : w4.heap.size = D8 at *
  clear hW5 A5
  refine (findleaf_any w5 _ _ n key hA5 sm hup HF.out).mono ?_
  rintro e w6 ⟨⟨r, rfl, hat⟩, k6⟩
  have b36 := below_keeps k6 b35 (lt_of_block b35)
  have b66 := below_keeps k6 b65 (lt_of_block b65)
  have b86 := below_keeps k6 b8 (lt_of_block b8)
  have K6 := K5.trans k6
  have hk6 := hsl5.1.below k6
  have hv6 := hsl5.2.1.below k6
  have hi6 := hsl5.2.2.below k6
  have l2 := l6
  have l6 : w.heap.size + 1 < D8 := Nat.lt_of_lt_of_le l6 l24
  have HAT := Lib.hid hat
  have hrl := hat.le
  have r0 : (0 : Int) ≤ (r : Int) := by omega
  have ap := Lib.hid hap
  have tp := Lib.hid htop
  have l8 : D8 < w6.heap.size := lt_of_block b86
  have L6 := Lib.hid l6
  have L24 := Lib.hid l24
  clear x0 x1 x2 x3 b35 b65 b8 hA5 K5 k6 hsl5 hat hap htop l24 hup
  have HH := Lib.hid hroom
  by_cases hfi : n.finds key r = true
  · have hrn : r < n.values.length := by
      unfold ND.finds at hfi
      rw [Bool.and_eq_true, decide_eq_true_eq] at hfi
      have := HFM.out.1
      omega
    obtain ⟨g, off, rfl, hVg, hg, hc⟩ := hv6.rd.get (by omega)
    have HP : Hid (n.put key value r = ⟨true, n.keys, n.values.set r value, n.kids⟩) := by
      unfold Hid ND.put
      rw [if_pos hfi, HF.out]
    have c1 := hc r _ (tcells_get hrn)
    have r1 : (r : Int) < (n.values.length : Int) := by omega
    have hfz : w6.frozen? ⟨g, off + r, none⟩ = false := by
      obtain ⟨-, q⟩ := hv6
      rcases q with ⟨a', he, hz⟩ | ⟨g', off', cap', cur, he, _, hh, _⟩
      · omega
      · injection he with e1 e2 e3
        injection e1 with e1
        injection e1 with e1 e4 e5
        subst e1
        exact free_of_block hh _
    have hgD : g < D8 := tp.out g (Or.inr (Or.inl hVg))
    have hgM := ap.out.v g hVg
    have n1 : ¬ g = D8 := by omega
    have n2 : ¬ D8 = g := by omega
    have n3 : ¬ g = w.heap.size + 1 := by omega
    have n4 : ¬ w.heap.size + 1 = g := by omega
    have n5 : ¬ w.heap.size + 1 = D8 := by omega
    have n6 : ¬ D8 = w.heap.size + 1 := by omega
    obtain ⟨x0, x1, x2, x3, -⟩ := cells4 b86
    obtain ⟨y0, y1, y2, y3, f0, f1, f2, f3⟩ := cells4 b66
    rw [hfi]
    clear hc
    go_wp2_with fail
    have hvs := sl_set (u := .string value) hv6 hrn
    rw [tcells_set] at hvs
    have cG : Chg (fun j => j = g) w6 (w6.setCell ⟨g, off + r, none⟩ (.string value)) := (Chg.refl _ _).setCell _ _ (fun _ => rfl)
    have hc4 := chg4 (Bl.refl (w6.setCell ⟨g, off + r, none⟩ (.string value))) (w.heap.size + 1) (.bool true) (.slice ka2 n.keys.length kc2) (.slice (some ⟨g, off, none⟩) n.values.length vc2) (.slice ia2 n.kids.length ic2)
    refine bodyPost_ret (v := .tuple #[.agg #[.bool true, .slice ka2 n.keys.length kc2, .slice (some ⟨g, off, none⟩) n.values.length vc2, .slice ia2 n.kids.length ic2], .int .i64 0]) (by simp [results, Tryz.results25, go_sem, *]) rfl ?_
    have ap := ap.out
    have tp := tp.out
    have hs := cG.size
    have hs2 := hc4.size
    refine ⟨⟨_, r, rfl, HAT.out, ?_⟩, (K6.chg cG (fun i hi e => by omega)).chg hc4 (fun i hi e => by omega)⟩
    rw [HP.out]
    exact own_of rfl List.length_set rfl ((hk6.chg cG (fun j hj e => ap.kv j hj (e ▸ hVg))).chg hc4 (fun j hj e => by have := ap.k j hj; omega)) (hvs.chg hc4 (fun j hj e => by have := ap.v j hj; omega)) ((hi6.chg cG (fun j hj e => ap.vi j (e ▸ hVg) hj)).chg hc4 (fun j hj e => by have := ap.i j hj; omega)) (ap.low (by omega)) (fun j hj => by have := tp j hj; omega)
  · have hfb : n.finds key r = false := by simpa using hfi
    have HP : Hid (n.put key value r = ⟨true, n.keys.take r ++ key :: n.keys.drop r, n.values.take r ++ value :: n.values.drop r, n.kids⟩) := by
      unfold Hid ND.put
      rw [if_neg hfi, HF.out]
    obtain ⟨x0, x1, x2, x3, f0, f1, f2, f3⟩ := cells4 b86
    rw [hfb]
    clear hfi hfb
    have hrlv : r ≤ n.values.length := by have := HFM.out.1; omega
    go_wp2_with fail
    have A7 : Bl w6 (w6.alloc (.cells #[.string key] 9)) := (Bl.refl _).alloc _
    have bk7 : (w6.alloc (.cells #[.string key] 9)).heap[w6.heap.size]? = some (.cells #[.string key] 9 (0, 0)) := block_new _ _
    have z7 : ∀ o, (w6.alloc o).heap.size = w6.heap.size + 1 := fun o => by simp
    refine (insert_sl (w6.alloc (.cells #[.string key] 9)) K ka2 n.keys.length kc2 r w6.heap.size n.keys key (hk6.below A7) rfl hrl bk7 (fun h => by have := tp.out _ (Or.inl h); omega) HH.out).mono ?_
    rintro e w7 ⟨⟨u7, rfl, hs7⟩, c7⟩
    obtain ⟨ua, uc, rfl⟩ := hs7.shape
    have b87 := c7.keeps (below_keeps A7 b86 (lt_of_block b86)) (fun h => by have := tp.out _ (Or.inl h); omega)
    have b67 := c7.keeps (below_keeps A7 b66 (lt_of_block b66)) (fun h => by have := ap.out.k _ h; omega)
    have K7 := (K6.trans A7).chg c7 (fun i hi h => by have := ap.out.k _ h; omega)
    have s7 := c7.size
    rw [z7] at s7
    have hv7 := (hv6.below A7).chg c7 (fun j hj h => ap.out.kv j h hj)
    have hi7 := (hi6.below A7).chg c7 (fun j hj h => ap.out.ki j h hj)
    have hs7' := hs7.mono (own2 := fun j => (K j ∨ j = w6.heap.size + 1) ∧ j < w7.heap.size) (fun j hj e => ⟨e.imp id (fun q => q.trans (z7 _)), hj⟩)
    clear x0 x1 x2 x3 f0 f1 f2 f3 hs7
    obtain ⟨x0, x1, x2, x3, f0, f1, f2, f3⟩ := cells4 b87
    go_wp2_with fail
    have b88 : (w7.setCell ⟨D8, 1, none⟩ (.slice ua (n.keys.length + 1) uc)).heap[D8]? = some (.cells #[.bool true, .slice ua (n.keys.length + 1) uc, .slice va2 n.values.length vc2, .slice ia2 n.kids.length ic2] 61 (0, 0)) := by rw [block_set b87]; rfl
    have c8 : Chg (fun j => j = D8) w7 (w7.setCell ⟨D8, 1, none⟩ (.slice ua (n.keys.length + 1) uc)) := (Chg.refl _ _).setCell _ _ (fun _ => rfl)
    have z8 : (w7.setCell ⟨D8, 1, none⟩ (.slice ua (n.keys.length + 1) uc)).heap.size = w7.heap.size := by simp
    have b68 := c8.keeps b67 (by omega)
    have hs8 := hs7'.chg c8 (fun j hj e => by have q := hj.1; rcases q with q | q; (have := tp.out _ (Or.inl q); omega); omega)
    have hv8 := hv7.chg c8 (fun j hj e => by have := tp.out _ (Or.inr (Or.inl hj)); omega)
    have hi8 := hi7.chg c8 (fun j hj e => by have := tp.out _ (Or.inr (Or.inr hj)); omega)
    have K8 := K7.chg c8 (fun i hi h => by omega)
    rw [← z8]
    generalize hW8 : w7.setCell ⟨D8, 1, none⟩ (.slice ua (n.keys.length + 1) uc) = w8 at *
    clear hW8 x0 x1 x2 x3 f0 f1 f2 f3 b87 b67 hv7 hi7 c8
    have A9 : Bl w8 (w8.alloc (.cells #[.string value] 9)) := (Bl.refl _).alloc _
    have bk9 : (w8.alloc (.cells #[.string value] 9)).heap[w8.heap.size]? = some (.cells #[.string value] 9 (0, 0)) := block_new _ _
    have z9 : ∀ o, (w8.alloc o).heap.size = w8.heap.size + 1 := fun o => by simp
    refine (insert_sl (w8.alloc (.cells #[.string value] 9)) V va2 n.values.length vc2 r w8.heap.size n.values value (hv8.below A9) rfl hrlv bk9 (fun h => by have := tp.out _ (Or.inr (Or.inl h)); omega) (by have := HH.out; have := HFM.out.1; omega)).mono ?_
    rintro e w10 ⟨⟨u10, rfl, hs10⟩, c10⟩
    obtain ⟨ub, ubc, rfl⟩ := hs10.shape
    have b810 := c10.keeps (below_keeps A9 b88 (lt_of_block b88)) (fun h => by have := tp.out _ (Or.inr (Or.inl h)); omega)
    have b610 := c10.keeps (below_keeps A9 b68 (lt_of_block b68)) (fun h => by have := ap.out.v _ h; omega)
    have K10 := (K8.trans A9).chg c10 (fun i hi h => by have := ap.out.v _ h; omega)
    have s10 := c10.size
    rw [z9] at s10
    have hk10 := (hs8.below A9).chg c10 (fun j hj h => by have q := hj.1; rcases q with q | q; exact ap.out.kv j q h; (have := tp.out _ (Or.inr (Or.inl h)); omega))
    have hi10 := (hi8.below A9).chg c10 (fun j hj h => ap.out.vi j h hj)
    have hs10' := hs10.mono (own2 := fun j => (V j ∨ j = w8.heap.size + 1) ∧ j < w10.heap.size) (fun j hj e => ⟨e.imp id (fun q => q.trans (z9 _)), hj⟩)
    clear hs10 b88 b68 hs8 hv8 hi8
    have n5 : ¬ w.heap.size + 1 = D8 := by have := L6.out; omega
    have n6 : ¬ D8 = w.heap.size + 1 := by have := L6.out; omega
    obtain ⟨x0, x1, x2, x3, f0, f1, f2, f3⟩ := cells4 b810
    obtain ⟨y0, y1, y2, y3, g0, g1, g2, g3⟩ := cells4 b610
    go_wp2_with fail
    have c11 : Chg (fun j => j = D8) w10 (w10.setCell ⟨D8, 2, none⟩ (.slice ub (n.values.length + 1) ubc)) := (Chg.refl _ _).setCell _ _ (fun _ => rfl)
    have hc4 := chg4 (Bl.refl (w10.setCell ⟨D8, 2, none⟩ (.slice ub (n.values.length + 1) ubc))) (w.heap.size + 1) (.bool true) (.slice ua (n.keys.length + 1) uc) (.slice ub (n.values.length + 1) ubc) (.slice ia2 n.kids.length ic2)
    refine bodyPost_ret (v := .tuple #[.agg #[.bool true, .slice ua (n.keys.length + 1) uc, .slice ub (n.values.length + 1) ubc, .slice ia2 n.kids.length ic2], .int .i64 0]) (by simp [results, Tryz.results25, go_sem, *]) rfl ?_
    have ap := ap.out
    have tp := tp.out
    have hz := c11.size
    have hz2 := hc4.size
    have hl6 := L6.out
    have hl24 := L24.out
    have mK : ∀ j, ((K j ∨ j = w6.heap.size + 1) ∧ j < w7.heap.size) → w2.heap.size ≤ j ∧ j ≠ D8 := fun j hj => by
      rcases hj.1 with e | e
      · have h1 := ap.k j e; have h2 := tp j (Or.inl e); omega
      · omega
    have mV : ∀ j, ((V j ∨ j = w8.heap.size + 1) ∧ j < w10.heap.size) → w2.heap.size ≤ j ∧ j ≠ D8 := fun j hj => by
      rcases hj.1 with e | e
      · have h1 := ap.v j e; have h2 := tp j (Or.inr (Or.inl e)); omega
      · omega
    have mI : ∀ j, I j → w2.heap.size ≤ j ∧ j ≠ D8 := fun j e => by have h1 := ap.i j e; have h2 := tp j (Or.inr (Or.inr e)); omega
    refine ⟨⟨_, r, rfl, HAT.out, ?_⟩, (K10.chg c11 (fun i hi e => by omega)).chg hc4 (fun i hi e => by omega)⟩
    rw [HP.out]
    refine own_of (by simp; omega) (by simp; omega) rfl ((hk10.chg c11 (fun j hj e => (mK j hj).2 e)).chg hc4 (fun j hj e => by have := mK j hj; omega)) ((hs10'.chg c11 (fun j hj e => (mV j hj).2 e)).chg hc4 (fun j hj e => by have := mV j hj; omega)) ((hi10.chg c11 (fun j hj e => (mI j hj).2 e)).chg hc4 (fun j hj e => by have := mI j hj; omega)) ⟨?_, ?_, ?_, fun j hj => by have := mK j hj; omega, fun j hj => by have := mV j hj; omega, fun j hj => by have := mI j hj; omega⟩ (fun j hj => ?_)
    · intro j hj hv
      rcases hv.1 with e | e
      · rcases hj.1 with q | q
        · exact ap.kv j q e
        · have := tp j (Or.inr (Or.inl e)); omega
      · have := hj.2; omega
    · intro j hj hv
      rcases hj.1 with q | q
      · exact ap.ki j q hv
      · have := tp j (Or.inr (Or.inr hv)); omega
    · intro j hj hv
      rcases hj.1 with q | q
      · exact ap.vi j q hv
      · have := tp j (Or.inr (Or.inr hv)); omega
    · rcases hj with h1 | h1 | h1
      · have := h1.2; omega
      · have := h1.2; omega
      · have := tp j (Or.inr (Or.inr h1)); omega
end Go.Proofs.YthmimbmlcihkaaaGreat
