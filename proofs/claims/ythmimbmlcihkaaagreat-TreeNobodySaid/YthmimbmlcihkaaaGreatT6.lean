/-
  Get of a tree of one leaf.
-/
import Derived.Test.YthmimbmlcihkaaaGreatT5
namespace Go.Proofs.YthmimbmlcihkaaaGreat
open Go.RowKit
set_option linter.unusedSimpArgs false
set_option linter.unusedVariables false
set_option maxRecDepth 100000

/-- a leaf as it should be -/
structure ND.IsLeaf (n : ND) : Prop where
  leaf : n.leaf = true
  ups : ups n.keys = true
  vals : n.values.length = n.keys.length
  small : n.keys.length ≤ 1048576
  kids : n.kids = []
theorem ND.IsLeaf.sm {n : ND} (h : n.IsLeaf) : n.Small := ⟨by have := h.small; omega, by have := h.small; have := h.vals; omega, by rw [h.kids]; simp⟩
/-- what Get tells of a leaf -/
def GotLeaf (n : ND) (key : ByteArray) (e : Ending) : Prop :=
  ∃ r : Nat, n.at key r ∧ ((n.finds key r = true ∧ ∃ h : r < n.values.length, e = .returned (.tuple #[.string n.values[r], .bool true, .int .i64 0])) ∨ (n.finds key r = false ∧ e = .returned (.tuple #[.string ⟨#[]⟩, .bool false, .int .i64 0])))
section
variable {w : World} {tb kb : Nat} {size : Int} {rv : Value} {n : ND} {ps : List Nat} {sector : Int}
set_option maxHeartbeats 4000000 in
theorem get_leaf (h : TreeIn w tb size rv kb) (hk : KnotIn w kb n ps sector) (hL : n.IsLeaf) (key : ByteArray) : Calls Tryz.prog 15 #[ptr tb, .string key] w fun e w' => GotLeaf n key e ∧ Bl w w' := by
  have HK := Lib.hid hk
  have HT := Lib.hid h
  have HL := Lib.hid hL
  have htl : tb < w.heap.size := lt_of_block h
  have k1 : Bl w (w.alloc (.cells #[.string ⟨#[]⟩, .string ⟨#[]⟩] 92)) := (Bl.refl w).alloc _
  have b1 : (w.alloc (.cells #[.string ⟨#[]⟩, .string ⟨#[]⟩] 92)).heap[w.heap.size]? = some (.cells #[.string ⟨#[]⟩, .string ⟨#[]⟩] 92 (0, 0)) := block_new _ _
  have s0 : (w.alloc (.cells #[.string ⟨#[]⟩, .string ⟨#[]⟩] 92)).cell? ⟨w.heap.size, 0, none⟩ = some (.string ⟨#[]⟩) := by rw [cell_of_block b1]; rfl
  have s1 : (w.alloc (.cells #[.string ⟨#[]⟩, .string ⟨#[]⟩] 92)).cell? ⟨w.heap.size, 1, none⟩ = some (.string ⟨#[]⟩) := by rw [cell_of_block b1]; rfl
  obtain ⟨-, -, c2⟩ := h.cells
  unfold ptr at *
  clear h hk hL b1
  go_enter Tryz.func15, Tryz.ntmps15
  go_wp2_with fail
  refine (made_any HT.out).mono ?_
  rintro e w1 ⟨rfl, rfl⟩
  go_wp2_with fail
  have HK1 := Lib.hid k1
  clear k1
  generalize w1.alloc (.cells #[.string ⟨#[]⟩, .string ⟨#[]⟩] 92) = W1 at *
  go_loopw [7] (fun v wr => v = .pointer (some ⟨kb, 0, none⟩) ∧ wr = W1) (fun _ _ => 0)
  case atStart => exact ⟨rfl, rfl⟩
  case round =>
    obtain ⟨rfl, rfl⟩ := hrel
    go_wp2_with fail
    refine (at_root (HT.out.below HK1.out) (HK.out.below HK1.out) HL.out.sm).mono ?_
    rintro e w2 ⟨⟨v, rfl, hv⟩, k2⟩
    obtain ⟨ka, kc, va, vc, ia, ic, rfl, hN⟩ := hv
    have HN := Lib.hid hN
    have K2 := Lib.hid (Bl.trans HK1.out k2)
    clear k2 hN s0 s1 c2
    unfold nodeV
    have hlf := HL.out.leaf
    rw [hlf]
    go_wp2_with fail
    have k3 : Bl w2 (w2.alloc (.cells #[.bool true, .slice ka n.keys.length kc, .slice va n.values.length vc, .slice ia n.kids.length ic] 61)) := (Bl.refl w2).alloc _
    refine (findleaf_any _ AllB _ n key ⟨ka, kc, va, vc, ia, ic, by unfold nodeV; rw [hlf], HN.out.below k3⟩ HL.out.sm HL.out.ups hlf).mono ?_
    rintro e w4 ⟨⟨r, rfl, hr⟩, k4⟩
    have b3 : (w2.alloc (.cells #[.bool true, .slice ka n.keys.length kc, .slice va n.values.length vc, .slice ia n.kids.length ic] 61)).heap[w2.heap.size]? = some (.cells #[.bool true, .slice ka n.keys.length kc, .slice va n.values.length vc, .slice ia n.kids.length ic] 61 (0, 0)) := block_new _ _
    have b4 := below_keeps k4 b3 (lt_of_block b3)
    obtain ⟨c0, c1, c2, c3, -, -, -, -⟩ := cells4 b4
    have K4 := Lib.hid (Bl.trans K2.out (Bl.trans k3 k4))
    have HN4 := Lib.hid (HN.out.below (Bl.trans k3 k4))
    have HR := Lib.hid hr
    clear k3 k4 b3 b4 hr
    generalize hM : w2.heap.size = M at *
    have hM4 : M < w4.heap.size := by
      by_cases hh : M < w4.heap.size
      · exact hh
      · exact absurd (cell_lt c0) hh
    clear hM
    cases hf : n.finds key r with
    | true =>
      have hrk : r < n.keys.length := by unfold ND.finds at hf; simp at hf; exact hf.1
      have hrv : r < n.values.length := by rw [HL.out.vals]; exact hrk
      obtain ⟨g, off, rfl, hmx, hg, hc⟩ := RdAt.get HN4.out.values (by omega)
      have q0 := hc r _ (tcells_get hrv)
      have i0 : (0 : Int) ≤ (r : Int) := by omega
      have i1 : (r : Int) < (n.values.length : Int) := by omega
      have HF := Lib.hid hf
      clear hc hf hlf
      go_wp2_with fail
      refine bodyPost_ret (v := .tuple #[.string n.values[r], .bool true, .int .i64 0]) (by simp [results, Tryz.results15, go_sem, *]) rfl ?_
      exact ⟨⟨r, HR.out, Or.inl ⟨HF.out, hrv, rfl⟩⟩, K4.out⟩
    | false =>
      have HF := Lib.hid hf
      clear hf hlf
      go_wp2_with fail
      refine bodyPost_ret (v := .tuple #[.string ⟨#[]⟩, .bool false, .int .i64 0]) (by simp [results, Tryz.results15, go_sem, *]) rfl ?_
      exact ⟨⟨r, HR.out, Or.inr ⟨HF.out, rfl⟩⟩, K4.out⟩
end
end Go.Proofs.YthmimbmlcihkaaaGreat
