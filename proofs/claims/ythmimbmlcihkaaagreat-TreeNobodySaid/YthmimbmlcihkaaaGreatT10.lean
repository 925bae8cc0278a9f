/-
  Put into a tree of one leaf that fits.
-/
import Derived.Test.YthmimbmlcihkaaaGreatT9
namespace Go.Proofs.YthmimbmlcihkaaaGreat
open Go.RowKit
set_option linter.unusedSimpArgs false
set_option linter.unusedVariables false
set_option maxRecDepth 100000

def ND.leaf0 : ND := ⟨true, [], [], []⟩
theorem leaf0_check : ND.leaf0.check = 0 := by
  unfold ND.check
  rw [if_pos (by simp [ND.lens, ND.leaf0]), if_pos ⟨by simp [ND.shape, ND.leaf0, ups, ND.form, Ups], Or.inl rfl⟩]
section
variable {w : World} {tb kb cb : Nat} {size : Int} {n : ND} {ps : List Nat} {sector : Int}
set_option maxHeartbeats 4000000 in
theorem tput_leaf (h : TreeIn w tb size .nilIface kb) (hk : KnotIn w kb n ps sector) (hL : n.IsLeaf) (ln : n.Lens) (hck : n.check = 0) (key value : ByteArray) (hkey : keyOk key = true) (hval : valOk value = true) (hno : ∀ r, n.at key r → n.finds key r = false)
    (hput : ∀ r, n.at key r → (n.put key value r).Small ∧ (n.put key value r).lens = true ∧ (n.put key value r).psize ≤ size) :
    Calls Tryz.prog 10 #[ptr tb, .string key, .string value] w fun e w' => (∃ tb' kb' r, e = .returned (.tuple #[ptr tb', .int .i64 0]) ∧ n.at key r ∧ TreeIn w' tb' size .nilIface kb' ∧ KnotIn w' kb' (n.put key value r) [] (-1)) ∧ Bl w w' := by
  have HK := Lib.hid hk
  have HT := Lib.hid h
  have HL := Lib.hid hL
  have HNO := Lib.hid hno
  have HPUT := Lib.hid hput
  have HLN := Lib.hid ln
  have HCK := Lib.hid hck
  have HKEY := Lib.hid hkey
  have HVAL := Lib.hid hval
  clear h hk hL hno hput ln hck hkey hval
  unfold ptr at *
  go_enter Tryz.func10, Tryz.ntmps10
  go_wp2_with fail
  refine (made_any HT.out).mono ?_
  rintro e w1 ⟨rfl, rfl⟩
  go_wp2_with fail
  refine (put_leaf w1 AllB _ .leaf0 key value (leaf_empty _ _) ⟨by simp [ND.leaf0], by simp [ND.leaf0], by simp [ND.leaf0]⟩ ⟨by simp [ND.leaf0], by simp [ND.leaf0]⟩ leaf0_check rfl HKEY.out HVAL.out (by simp [ND.leaf0])).mono ?_
  rintro e w2 ⟨⟨u, r0, rfl, -, hu⟩, k2⟩
  obtain ⟨ka0, kc0, va0, vc0, ia0, ic0, K0, V0, I0, rfl, -, -, -⟩ := hu
  have K2 := Lib.hid k2
  unfold nodeV
  clear k2
  generalize ND.leaf0.put key value r0 = m0
  go_wp2_with fail
  have kb4 : Bl w2 ((w2.alloc (.cells #[.bool m0.leaf, .slice ka0 m0.keys.length kc0, .slice va0 m0.values.length vc0, .slice ia0 m0.kids.length ic0] 61)).alloc (.cells #[.pointer (some ⟨tb, 0, none⟩), .slice none 0 0] 71)) := ((Bl.refl w2).alloc _).alloc _
  have hC4 : ChangeIn ((w2.alloc (.cells #[.bool m0.leaf, .slice ka0 m0.keys.length kc0, .slice va0 m0.values.length vc0, .slice ia0 m0.kids.length ic0] 61)).alloc (.cells #[.pointer (some ⟨tb, 0, none⟩), .slice none 0 0] 71)) (w2.heap.size + 1) tb (.slice none 0 0) := block_new' _ (by simp)
  have K4 := Lib.hid (Bl.trans K2.out kb4)
  clear kb4 K2
  generalize (w2.alloc (.cells #[.bool m0.leaf, .slice ka0 m0.keys.length kc0, .slice va0 m0.values.length vc0, .slice ia0 m0.kids.length ic0] 61)).alloc (.cells #[.pointer (some ⟨tb, 0, none⟩), .slice none 0 0] 71) = w4 at *
  have HC4 := Lib.hid hC4
  clear hC4
  generalize w2.heap.size + 1 = cb at *
  refine (down_leaf (HT.out.below K4.out) (HK.out.below K4.out) HL.out HC4.out key).mono ?_
  rintro e w5 ⟨⟨v5, rfl, hv5⟩, k5⟩
  obtain ⟨ka, kc, va, vc, ia, ic, rfl, hN⟩ := hv5
  have HN := Lib.hid hN
  have K5 := Lib.hid (Bl.trans K4.out k5)
  have HC5 := Lib.hid (HC4.out.below k5)
  have hlf := HL.out.leaf
  clear k5 hN
  unfold nodeV
  rw [hlf]
  go_wp2_with fail
  have k6 : Bl w5 (w5.alloc (.cells #[.bool true, .slice ka n.keys.length kc, .slice va n.values.length vc, .slice ia n.kids.length ic] 61)) := (Bl.refl w5).alloc _
  have b6 : (w5.alloc (.cells #[.bool true, .slice ka n.keys.length kc, .slice va n.values.length vc, .slice ia n.kids.length ic] 61)).heap[w5.heap.size]? = some (.cells #[.bool true, .slice ka n.keys.length kc, .slice va n.values.length vc, .slice ia n.kids.length ic] 61 (0, 0)) := block_new _ _
  have NV : ∀ W, Bl w5 W → NodeAt W (fun k => k < w4.heap.size) (.agg #[.bool true, .slice ka n.keys.length kc, .slice va n.values.length vc, .slice ia n.kids.length ic]) n := fun W k => ⟨ka, kc, va, vc, ia, ic, by unfold nodeV; rw [hlf], HN.out.below k⟩
  have HNV := Lib.hid NV
  clear NV
  refine (findleaf_any _ _ _ n key (HNV.out _ k6) HL.out.sm HL.out.ups hlf).mono ?_
  rintro e w7 ⟨⟨r1, rfl, hr1⟩, k7⟩
  rw [HNO.out r1 hr1]
  have b7 := below_keeps k7 b6 (lt_of_block b6)
  obtain ⟨c0, c1, c2, c3, -, -, -, -⟩ := cells4 b7
  have k57 : Bl w5 w7 := Bl.trans k6 k7
  have K57 := Lib.hid k57
  have hM7 : w5.heap.size < w7.heap.size := lt_of_block b7
  clear b6 b7 k6 k7 k57 hr1
  go_wp2_with fail
  refine (put_leaf w7 _ _ n key value (HNV.out _ K57.out) HL.out.sm HLN.out HCK.out hlf HKEY.out HVAL.out (by have := HL.out.small; omega)).mono ?_
  rintro e w8 ⟨⟨u, r, rfl, hr, hu⟩, k8⟩
  have hnode := hu.at
  obtain ⟨ka1, kc1, va1, vc1, ia1, ic1, K1, V1, I1, rfl, -, -, -⟩ := hu
  obtain ⟨hsm, hlens, hsz⟩ := HPUT.out r hr
  have hml : (n.put key value r).leaf = true := by unfold ND.put; split <;> exact hlf
  have hmk : (n.put key value r).kids = [] := by unfold ND.put; split <;> exact HL.out.kids
  have HNODE := Lib.hid hnode
  have HR := Lib.hid hr
  have HSM := Lib.hid hsm
  have HLENS := Lib.hid hlens
  have HSZ := Lib.hid hsz
  have HML := Lib.hid hml
  have HMK := Lib.hid hmk
  have K8 := Lib.hid (Bl.trans K5.out (Bl.trans K57.out k8))
  have HC8 := Lib.hid (HC5.out.below (Bl.trans K57.out k8))
  clear hnode hr hsm hlens hsz hml hmk k8 c0 c1 c2 c3 hM7
  unfold nodeV at *
  generalize hm : n.put key value r = m at *
  go_wp2_with fail
  have k9 : Bl w8 (w8.alloc (.cells #[.bool m.leaf, .slice ka1 m.keys.length kc1, .slice va1 m.values.length vc1, .slice ia1 m.kids.length ic1] 61)) := (Bl.refl w8).alloc _
  refine (up_leaf (HT.out.below (Bl.trans K8.out k9)) (HC8.out.below k9) _ _ (NodeAt.below HNODE.out k9) HML.out HMK.out HSM.out HLENS.out HSZ.out).mono ?_
  rintro e w10 ⟨⟨tb', kb', rfl, hT', hK'⟩, k10⟩
  have HT' := Lib.hid hT'
  have HK' := Lib.hid hK'
  have K10 := Lib.hid (Bl.trans (Bl.trans K8.out k9) k10)
  clear hT' hK' k10 k9
  unfold ptr
  go_wp2_with fail
  refine bodyPost_ret (v := .tuple #[.pointer (some ⟨tb', 0, none⟩), .int .i64 0]) (by simp [results, Tryz.results10, go_sem, *]) rfl ?_
  exact ⟨⟨tb', kb', r, rfl, HR.out, HT'.out, by rw [hm]; exact HK'.out⟩, K10.out⟩
end
end Go.Proofs.YthmimbmlcihkaaaGreat
