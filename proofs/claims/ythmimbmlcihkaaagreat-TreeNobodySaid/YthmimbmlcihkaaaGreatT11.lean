/-
  lives of the laws of the tree.
-/
import Derived.Test.YthmimbmlcihkaaaGreatT10
namespace Go.Proofs.YthmimbmlcihkaaaGreat
open Go.RowKit
set_option linter.unusedSimpArgs false
set_option linter.unusedVariables false
set_option maxRecDepth 100000

@[go_sem] theorem eql_func (w : World) (f : Fn) (a b : Array Value) : (binOp .eql 53 (.func f a b) .nilFunc).run Tryz.prog w = .ok (.bool false) w := by kernel_rfl
def kS : ByteArray := ⟨#[107]⟩
def vS : ByteArray := ⟨#[118]⟩
def ND.leaf1 : ND := ⟨true, [kS], [vS], []⟩
theorem leaf0_isLeaf : ND.leaf0.IsLeaf := ⟨rfl, ups_yes (fun j h _ => by simp [ND.leaf0] at h), rfl, by simp [ND.leaf0], rfl⟩
theorem leaf1_isLeaf : ND.leaf1.IsLeaf := ⟨rfl, ups_yes (fun j h _ => by simp [ND.leaf1] at h), rfl, by simp [ND.leaf1], rfl⟩
theorem leaf0_finds (key : ByteArray) (r : Nat) : ND.leaf0.finds key r = false := by simp [ND.finds, ND.leaf0]
theorem leaf0_put (r : Nat) (h : ND.leaf0.at kS r) : ND.leaf0.put kS vS r = .leaf1 := by
  unfold ND.put
  rw [if_neg (by rw [leaf0_finds]; decide)]
  simp [ND.leaf0, ND.leaf1]
theorem leaf1_at (r : Nat) (h : ND.leaf1.at kS r) : r = 0 := by
  obtain ⟨h1, h2, h3⟩ := h
  by_cases h0 : 0 < r
  · have := h2 0 h0
    simp [ND.leaf1, atL, lessB_irr] at this
  · omega
theorem leaf1_finds : ND.leaf1.finds kS 0 = true := by simp [ND.finds, ND.leaf1, atL, eqB]
theorem leaf1_size : ND.leaf1.psize = 20 := by
  unfold ND.psize
  rw [if_neg (by simp [ND.leaf1])]
  simp [ND.leaf1, ND.psumTo, ND.pentry, sz, kS, vS, ByteArray.size]
theorem leaf1_lens : ND.leaf1.lens = true := by simp [ND.lens, ND.leaf1, keyOk, valOk, kS, vS, ByteArray.size]
theorem got0 (e : Ending) (h : GotLeaf .leaf0 kS e) : e = .returned (.tuple #[.string ⟨#[]⟩, .bool false, .int .i64 0]) := by
  obtain ⟨r, _, ⟨hf, _⟩ | ⟨_, rfl⟩⟩ := h
  · rw [leaf0_finds] at hf; cases hf
  · rfl
theorem got1 (e : Ending) (h : GotLeaf .leaf1 kS e) : e = .returned (.tuple #[.string ⟨#[118]⟩, .bool true, .int .i64 0]) := by
  obtain ⟨r, hr, ⟨_, hl, rfl⟩ | ⟨hf, _⟩⟩ := h
  · have := leaf1_at r hr
    subst this
    rfl
  · have := leaf1_at r hr
    subst this
    rw [leaf1_finds] at hf; cases hf
theorem key_k : keyOk kS = true := by simp [keyOk, kS, ByteArray.size]
theorem val_v : valOk vS = true := by simp [valOk, vS, ByteArray.size]
set_option maxHeartbeats 4000000 in
theorem lives_any (w : World) : Calls Tryz.prog 8 #[] w fun e w' => e = .returned (.bool true) ∧ Bl w w' := by
  go_enter Tryz.func8, Tryz.ntmps8
  go_wp2_with fail
  refine (new512 w).mono ?_
  rintro e w1 ⟨tb, kb, rfl, hT, hK, k1⟩
  have HT1 := Lib.hid hT
  have HK1 := Lib.hid (show KnotIn w1 kb .leaf0 [] (-1) from hK)
  have K1 := Lib.hid k1
  clear hT hK k1
  unfold ptr
  go_wp2_with fail
  refine (dirty_leaf HT1.out HK1.out).mono ?_
  rintro e w2 ⟨rfl, k2⟩
  have K2 := Lib.hid k2
  clear k2
  go_wp2_with fail
  refine (root_any (HT1.out.below K2.out) (HK1.out.below K2.out)).mono ?_
  rintro e w3 ⟨rfl, rfl⟩
  go_wp2_with fail
  refine (scan_any _ _ (Or.inr ⟨_, rfl⟩) _ _).mono ?_
  rintro e w4 ⟨rfl, rfl⟩
  have k4 : Bl w3 (((w3.alloc (.cells #[.pointer (some ⟨tb, 0, none⟩)] 26)).alloc (.cells #[.string ⟨#[]⟩] 9)).alloc (.cells #[.string ⟨#[]⟩] 9)) := (((Bl.refl _).alloc _).alloc _).alloc _
  have K4 := Lib.hid (Bl.trans K2.out k4)
  clear k4
  go_wp2_with fail
  generalize ((w3.alloc (.cells #[.pointer (some ⟨tb, 0, none⟩)] 26)).alloc (.cells #[.string ⟨#[]⟩] 9)).alloc (.cells #[.string ⟨#[]⟩] 9) = w4 at *
  refine (tput_leaf (HT1.out.below K4.out) (HK1.out.below K4.out) leaf0_isLeaf ⟨by simp [ND.leaf0], by simp [ND.leaf0]⟩ leaf0_check kS vS key_k val_v (fun r _ => leaf0_finds _ _) (fun r hr => by rw [leaf0_put r hr]; exact ⟨leaf1_isLeaf.sm, leaf1_lens, by rw [leaf1_size]; omega⟩)).mono ?_
  rintro e w5 ⟨⟨tb', kb', r, rfl, hr, hT', hK'⟩, k5⟩
  rw [leaf0_put r hr] at hK'
  have HT5 := Lib.hid hT'
  have HK5 := Lib.hid hK'
  have K5 := Lib.hid (Bl.trans K4.out k5)
  clear hT' hK' k5 hr
  unfold ptr
  go_wp2_with fail
  refine (get_leaf HT5.out HK5.out leaf1_isLeaf kS).mono ?_
  rintro e w6 ⟨hg, k6⟩
  rw [got1 e hg]
  have K6 := Lib.hid (Bl.trans K5.out k6)
  clear hg k6
  go_wp2_with fail
  refine (get_leaf (HT1.out.below K6.out) (HK1.out.below K6.out) leaf0_isLeaf kS).mono ?_
  rintro e w7 ⟨hg, k7⟩
  rw [got0 _ hg]
  have K7 := Lib.hid (Bl.trans K1.out (Bl.trans K6.out k7))
  clear hg k7
  go_wp2_with fail
  go_ret
  exact ⟨rfl, K7.out⟩
end Go.Proofs.YthmimbmlcihkaaaGreat
