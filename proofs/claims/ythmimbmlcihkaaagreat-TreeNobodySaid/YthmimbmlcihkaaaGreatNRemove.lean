/-
  Remove: the program's, the walk.
-/
import Derived.Test.YthmimbmlcihkaaaGreatNPut
namespace Go.Proofs.YthmimbmlcihkaaaGreat
open Go.RowKit
set_option linter.unusedSimpArgs false
set_option linter.unusedVariables false
set_option maxRecDepth 100000
def ND.without (n : ND) (r : Nat) : ND := ⟨n.leaf, n.keys.take r ++ n.keys.drop (r + 1), n.values.take r ++ n.values.drop (r + 1), n.kids⟩
set_option maxRecDepth 100000 in
set_option maxHeartbeats 4000000 in
theorem remove_any (w : World) (own : Nat → Prop) (v : Value) (n : ND) (key : ByteArray) (P : Nat → Prop) (fd : Nat → Bool) (hv : NodeAt w own v n) (sm : n.Small)
    (hfd : ∀ (W : World) (own : Nat → Prop) (v : Value), NodeAt W own v n → Calls Tryz.prog 28 #[v, .string key] W fun e w' => (∃ r : Nat, e = .returned (.tuple #[.int .i64 r, .bool (fd r)]) ∧ P r) ∧ Bl W w')
    (hfr : ∀ r, P r → fd r = true → r < n.keys.length ∧ r < n.values.length) :
    Calls Tryz.prog 30 #[v, .string key] w fun e w' => (∃ u r, e = .returned (.tuple #[u, .bool (fd r)]) ∧ P r ∧ OwnNode w' w.heap.size u (if fd r = true then n.without r else n)) ∧ Bl w w' := by
  have hv' := hv
  obtain ⟨ka, kc, va, vc, ia, ic, rfl, h⟩ := hv
  unfold nodeV
  unfold nodeV at hv'
  have kB : Bl w ((w.alloc (.cells #[.bool n.leaf, .slice ka n.keys.length kc, .slice va n.values.length vc, .slice ia n.kids.length ic] 61)).alloc (.cells #[.bool false, .slice none 0 0, .slice none 0 0, .slice none 0 0] 61)) := ((Bl.refl w).alloc _).alloc _
  have b3 : ((w.alloc (.cells #[.bool n.leaf, .slice ka n.keys.length kc, .slice va n.values.length vc, .slice ia n.kids.length ic] 61)).alloc (.cells #[.bool false, .slice none 0 0, .slice none 0 0, .slice none 0 0] 61)).heap[w.heap.size]? = some (.cells #[.bool n.leaf, .slice ka n.keys.length kc, .slice va n.values.length vc, .slice ia n.kids.length ic] 61 (0, 0)) := block_old _ (block_new _ _)
  have b6 : ((w.alloc (.cells #[.bool n.leaf, .slice ka n.keys.length kc, .slice va n.values.length vc, .slice ia n.kids.length ic] 61)).alloc (.cells #[.bool false, .slice none 0 0, .slice none 0 0, .slice none 0 0] 61)).heap[w.heap.size + 1]? = some (.cells #[.bool false, .slice none 0 0, .slice none 0 0, .slice none 0 0] 61 (0, 0)) := block_new' _ (by simp)
  have hA := hv'.bl kB
  have HFD := Lib.hid hfd
  have HFR := Lib.hid hfr
  have HKM : Hid (n.keys.length ≤ 8796093022208 ∧ n.values.length ≤ 8796093022208) := ⟨sm.keys, sm.values⟩
  clear h hfd hfr
  obtain ⟨x0, x1, x2, x3, -⟩ := cells4 b3
  go_enter Tryz.func30, Tryz.ntmps30
  go_wp2_with fail
  generalize hW1 : (w.alloc (.cells #[.bool n.leaf, .slice ka n.keys.length kc, .slice va n.values.length vc, .slice ia n.kids.length ic] 61)).alloc (.cells #[.bool false, .slice none 0 0, .slice none 0 0, .slice none 0 0] 61) = W1 at *
  clear hW1
  refine (copied_sl _ _ _ n hA sm).mono ?_
  rintro e w4 ⟨⟨ka2, kc2, va2, vc2, ia2, ic2, K, V, I, rfl, hsl, hap, htop⟩, k4⟩
  unfold nodeV
  clear x0 x1 x2 x3
  have A5 : Bl w4 (w4.alloc (.cells #[.bool n.leaf, .slice ka2 n.keys.length kc2, .slice va2 n.values.length vc2, .slice ia2 n.kids.length ic2] 61)) := (Bl.refl _).alloc _
  have b8 : (w4.alloc (.cells #[.bool n.leaf, .slice ka2 n.keys.length kc2, .slice va2 n.values.length vc2, .slice ia2 n.kids.length ic2] 61)).heap[w4.heap.size]? = some (.cells #[.bool n.leaf, .slice ka2 n.keys.length kc2, .slice va2 n.values.length vc2, .slice ia2 n.kids.length ic2] 61 (0, 0)) := block_new _ _
  have b35 := below_keeps (k4.trans A5) b3 (lt_of_block b3)
  have b65 := below_keeps (k4.trans A5) b6 (lt_of_block b6)
  have hA5 := hA.bl (k4.trans A5)
  have K5 := (kB.trans k4).trans A5
  have hsl5 := And.intro (hsl.keys.below A5) (And.intro (hsl.values.below A5) (hsl.kids.below A5))
  have l6 : w.heap.size + 1 < W1.heap.size := lt_of_block b6
  have l24 := k4.size
  obtain ⟨x0, x1, x2, x3, -⟩ := cells4 b35
  clear b3 b6 hA kB k4 hsl
  go_wp2_with fail
  generalize hW5 : w4.alloc (.cells #[.bool n.leaf, .slice ka2 n.keys.length kc2, .slice va2 n.values.length vc2, .slice ia2 n.kids.length ic2] 61) = w5 at *
  generalize hD8 : w4.heap.size = D8 at *
  clear hW5 A5
  refine (HFD.out w5 _ _ hA5).mono ?_
  rintro e w6 ⟨⟨r, rfl, hat⟩, k6⟩
  have b36 := below_keeps k6 b35 (lt_of_block b35)
  have b66 := below_keeps k6 b65 (lt_of_block b65)
  have b86 := below_keeps k6 b8 (lt_of_block b8)
  have K6 := K5.trans k6
  have hk6 := hsl5.1.below k6
  have hv6 := hsl5.2.1.below k6
  have hi6 := hsl5.2.2.below k6
  have l2 := l6
  have l6 : w.heap.size + 1 < D8 := Nat.lt_of_lt_of_le l6 l24
  have HAT := Lib.hid hat
  have r0 : (0 : Int) ≤ (r : Int) := by omega
  have ap := Lib.hid hap
  have tp := Lib.hid htop
  have l8 : D8 < w6.heap.size := lt_of_block b86
  have L6 := Lib.hid l6
  have L24 := Lib.hid l24
  clear x0 x1 x2 x3 b35 b65 b8 hA5 K5 k6 hsl5 hat hap htop l24
  obtain ⟨z0, z1, z2, z3, -⟩ := cells4 b36
  have n5 : ¬ w.heap.size + 1 = D8 := by omega
  have n6 : ¬ D8 = w.heap.size + 1 := by omega
  by_cases hfi : fd r = true
  · have hrr := HFR.out r HAT.out hfi
    have r1 : (r : Int) < (n.values.length : Int) := by omega
    have r2 : ¬ (n.values.length : Int) ≤ (r : Int) := by omega
    have HRR := Lib.hid hrr
    have HN : Hid ((if fd r = true then n.without r else n) = n.without r) := if_pos hfi
    have HFI := Lib.hid hfi
    obtain ⟨x0, x1, x2, x3, f0, f1, f2, f3⟩ := cells4 b86
    have hfib := hfi
    have hwr : IntKind.i64.wrap ((r : Int) + 1) = (r : Int) + 1 := IntWalk.i64_in _ ⟨by omega, by have := HKM.out; omega⟩
    clear hrr hfi
    go_wp2_with fail
    refine (delete_sl w6 K ka2 n.keys.length kc2 r n.keys hk6 rfl HRR.out.1).mono ?_
    rintro e w7 ⟨⟨u7, rfl, hs7⟩, c7⟩
    obtain ⟨ua, uc, rfl⟩ := hs7.shape
    have b87 := c7.keeps b86 (fun h => by have := tp.out _ (Or.inl h); omega)
    have b67 := c7.keeps b66 (fun h => by have := ap.out.k _ h; omega)
    have K7 := K6.chg c7 (fun i hi h => by have := ap.out.k _ h; omega)
    have s7 := c7.size
    have hv7 := hv6.chg c7 (fun j hj h => ap.out.kv j h hj)
    have hi7 := hi6.chg c7 (fun j hj h => ap.out.ki j h hj)
    clear x0 x1 x2 x3 f0 f1 f2 f3 z0 z1 z2 z3 b36
    obtain ⟨x0, x1, x2, x3, f0, f1, f2, f3⟩ := cells4 b87
    go_wp2_with fail
    have b88 : (w7.setCell ⟨D8, 1, none⟩ (.slice ua (n.keys.length - 1) uc)).heap[D8]? = some (.cells #[.bool n.leaf, .slice ua (n.keys.length - 1) uc, .slice va2 n.values.length vc2, .slice ia2 n.kids.length ic2] 61 (0, 0)) := by rw [block_set b87]; rfl
    have c8 : Chg (fun j => j = D8) w7 (w7.setCell ⟨D8, 1, none⟩ (.slice ua (n.keys.length - 1) uc)) := (Chg.refl _ _).setCell _ _ (fun _ => rfl)
    have b68 := c8.keeps b67 (by omega)
    have hs8 := hs7.chg c8 (fun j hj e => by have := tp.out _ (Or.inl hj); omega)
    have hv8 := hv7.chg c8 (fun j hj e => by have := tp.out _ (Or.inr (Or.inl hj)); omega)
    have hi8 := hi7.chg c8 (fun j hj e => by have := tp.out _ (Or.inr (Or.inr hj)); omega)
    have K8 := K7.chg c8 (fun i hi h => by omega)
    have s8 := c8.size
    generalize hW8 : w7.setCell ⟨D8, 1, none⟩ (.slice ua (n.keys.length - 1) uc) = w8 at *
    clear hW8 x0 x1 x2 x3 f0 f1 f2 f3 b87 b67 hv7 hi7 hs7 c8
    refine (delete_sl w8 V va2 n.values.length vc2 r n.values hv8 rfl HRR.out.2).mono ?_
    rintro e w10 ⟨⟨u10, rfl, hs10⟩, c10⟩
    obtain ⟨ub, ubc, rfl⟩ := hs10.shape
    have b810 := c10.keeps b88 (fun h => by have := tp.out _ (Or.inr (Or.inl h)); omega)
    have b610 := c10.keeps b68 (fun h => by have := ap.out.v _ h; omega)
    have K10 := K8.chg c10 (fun i hi h => by have := ap.out.v _ h; omega)
    have s10 := c10.size
    have hk10 := hs8.chg c10 (fun j hj h => ap.out.kv j hj h)
    have hi10 := hi8.chg c10 (fun j hj h => ap.out.vi j h hj)
    clear b88 b68 hs8 hv8 hi8
    obtain ⟨x0, x1, x2, x3, f0, f1, f2, f3⟩ := cells4 b810
    obtain ⟨y0, y1, y2, y3, g0, g1, g2, g3⟩ := cells4 b610
    go_wp2_with fail
    have c11 : Chg (fun j => j = D8) w10 (w10.setCell ⟨D8, 2, none⟩ (.slice ub (n.values.length - 1) ubc)) := (Chg.refl _ _).setCell _ _ (fun _ => rfl)
    have hc4 := chg4 (Bl.refl (w10.setCell ⟨D8, 2, none⟩ (.slice ub (n.values.length - 1) ubc))) (w.heap.size + 1) (.bool n.leaf) (.slice ua (n.keys.length - 1) uc) (.slice ub (n.values.length - 1) ubc) (.slice ia2 n.kids.length ic2)
    refine bodyPost_ret (v := .tuple #[.agg #[.bool n.leaf, .slice ua (n.keys.length - 1) uc, .slice ub (n.values.length - 1) ubc, .slice ia2 n.kids.length ic2], .bool true]) (by simp [results, Tryz.results28, go_sem, *]) rfl ?_
    have ap := ap.out
    have tp := tp.out
    have hz := c11.size
    have hz2 := hc4.size
    have hl24 := L24.out
    have hrr := HRR.out
    have mJ : ∀ j, K j ∨ V j ∨ I j → W1.heap.size ≤ j ∧ j ≠ D8 := fun j hj => by
      have h2 := tp j hj
      rcases hj with e | e | e
      · have h1 := ap.k j e; omega
      · have h1 := ap.v j e; omega
      · have h1 := ap.i j e; omega
    refine ⟨⟨_, r, by rw [HFI.out], HAT.out, ?_⟩, (K10.chg c11 (fun i hi e => by omega)).chg hc4 (fun i hi e => by omega)⟩
    rw [HN.out]
    exact own_of (by simp; omega) (by simp; omega) rfl ((hk10.chg c11 (fun j hj e => (mJ j (Or.inl hj)).2 e)).chg hc4 (fun j hj e => by have := mJ j (Or.inl hj); omega)) ((hs10.chg c11 (fun j hj e => (mJ j (Or.inr (Or.inl hj))).2 e)).chg hc4 (fun j hj e => by have := mJ j (Or.inr (Or.inl hj)); omega)) ((hi10.chg c11 (fun j hj e => (mJ j (Or.inr (Or.inr hj))).2 e)).chg hc4 (fun j hj e => by have := mJ j (Or.inr (Or.inr hj)); omega)) (ap.low (by omega)) (fun j hj => by have := tp j hj; omega)
  · have hfb : fd r = false := by simpa using hfi
    have HFB := Lib.hid hfb
    obtain ⟨x0, x1, x2, x3, f0, f1, f2, f3⟩ := cells4 b86
    obtain ⟨y0, y1, y2, y3, g0, g1, g2, g3⟩ := cells4 b66
    have HN : Hid ((if fd r = true then n.without r else n) = n) := if_neg hfi
    clear hfi
    go_wp2_with fail
    have hc4 := chg4 (Bl.refl w6) (w.heap.size + 1) (.bool n.leaf) (.slice ka2 n.keys.length kc2) (.slice va2 n.values.length vc2) (.slice ia2 n.kids.length ic2)
    refine bodyPost_ret (v := .tuple #[.agg #[.bool n.leaf, .slice ka2 n.keys.length kc2, .slice va2 n.values.length vc2, .slice ia2 n.kids.length ic2], .bool false]) (by simp [results, Tryz.results28, go_sem, *]) rfl ?_
    have ap := ap.out
    have tp := tp.out
    have hz2 := hc4.size
    refine ⟨⟨_, r, by rw [HFB.out], HAT.out, ?_⟩, K6.chg hc4 (fun i hi e => by omega)⟩
    rw [HN.out]
    exact own_of (lf := n.leaf) rfl rfl rfl (hk6.chg hc4 (fun j hj e => by have := ap.k j hj; omega)) (hv6.chg hc4 (fun j hj e => by have := ap.v j hj; omega)) (hi6.chg hc4 (fun j hj e => by have := ap.i j hj; omega)) (ap.low (by omega)) (fun j hj => by have := tp j hj; omega)
theorem remove_leaf (w : World) (own : Nat → Prop) (v : Value) (n : ND) (key : ByteArray) (hv : NodeAt w own v n) (sm : n.Small) (hck : n.check = 0) (hf : n.leaf = true) :
    Calls Tryz.prog 30 #[v, .string key] w fun e w' => (∃ u r, e = .returned (.tuple #[u, .bool (n.finds key r)]) ∧ n.at key r ∧ OwnNode w' w.heap.size u (if n.finds key r = true then n.without r else n)) ∧ Bl w w' := by
  obtain ⟨hl, hsh, -⟩ := ND.check_zero hck
  have hfm := ND.form_leaf (ND.shape_form hsh) hf
  have hup : ups n.keys = true := by
    unfold ND.shape at hsh
    rw [Bool.and_eq_true, Bool.and_eq_true] at hsh
    exact hsh.2
  refine remove_any w own v n key (n.at key) (n.finds key) hv sm (fun W own v h => findleaf_any W own v n key h sm hup hf) (fun r _ hr => ?_)
  unfold ND.finds at hr
  rw [Bool.and_eq_true, decide_eq_true_eq] at hr
  omega
end Go.Proofs.YthmimbmlcihkaaaGreat
