/-
  A tree's node in its place, at the root; fits; Dirty and Scan of a leaf.
-/
import Derived.Test.YthmimbmlcihkaaaGreatT2
namespace Go.Proofs.YthmimbmlcihkaaaGreat
open Go.RowKit
set_option linter.unusedSimpArgs false
set_option linter.unusedVariables false
set_option maxRecDepth 100000

def noSpan : Value := .agg #[.string ⟨#[]⟩, .string ⟨#[]⟩]
theorem below_drewN {B : Nat} {a b : World} (h : Below B a b) (q : Nat) : Below B a (b.drewN q) := ⟨h.os, h.tape, h.output, h.size, h.block⟩
theorem less_nil (l : List UInt8) : Op.bytesLess l [] = false := by cases l <;> rfl
section
variable {w : World} {tb kb : Nat} {size : Int} {rv : Value} {n : ND} {ps : List Nat} {sector : Int}
set_option maxHeartbeats 2000000 in
theorem holds_root (w : World) (own : Nat → Prop) (v : Value) (n : ND) (hv : NodeAt w own v n) (sm : n.Small) : Calls Tryz.prog 76 #[noSpan, v] w fun e w' => e = .returned (.bool true) ∧ Bl w w' := by
  obtain ⟨ka, kc, va, vc, ia, ic, rfl, h⟩ := hv
  have k1 : Bl w ((w.alloc (.cells #[.string ⟨#[]⟩, .string ⟨#[]⟩] 92)).alloc (.cells (nbox n ka kc va vc ia ic) 61)) := ((Bl.refl w).alloc _).alloc _
  have b1 : ((w.alloc (.cells #[.string ⟨#[]⟩, .string ⟨#[]⟩] 92)).alloc (.cells (nbox n ka kc va vc ia ic) 61)).heap[w.heap.size + 1]? = some (.cells (nbox n ka kc va vc ia ic) 61 (0, 0)) := block_new' _ (by simp)
  have b0 : ((w.alloc (.cells #[.string ⟨#[]⟩, .string ⟨#[]⟩] 92)).alloc (.cells (nbox n ka kc va vc ia ic) 61)).heap[w.heap.size]? = some (.cells #[.string ⟨#[]⟩, .string ⟨#[]⟩] 92 (0, 0)) := block_old _ (block_new _ _)
  have hA := h.below k1
  have hk1 := sm.keys
  obtain ⟨_, _, _, hmax⟩ := RdAt.shape h.keys
  unfold maxLen at hmax
  unfold nbox at *
  obtain ⟨c0, c1, c2, c3, -, -, -, -⟩ := cells4 b1
  have s0 : ((w.alloc (.cells #[.string ⟨#[]⟩, .string ⟨#[]⟩] 92)).alloc (.cells #[.bool n.leaf, .slice ka n.keys.length kc, .slice va n.values.length vc, .slice ia n.kids.length ic] 61)).cell? ⟨w.heap.size, 0, none⟩ = some (.string ⟨#[]⟩) := by rw [cell_of_block b0]; rfl
  have s1 : ((w.alloc (.cells #[.string ⟨#[]⟩, .string ⟨#[]⟩] 92)).alloc (.cells #[.bool n.leaf, .slice ka n.keys.length kc, .slice va n.values.length vc, .slice ia n.kids.length ic] 61)).cell? ⟨w.heap.size, 1, none⟩ = some (.string ⟨#[]⟩) := by rw [cell_of_block b0]; rfl
  have K1 := Lib.hid k1
  unfold noSpan nodeV
  by_cases h0 : n.keys.length = 0
  · have e1 : ((n.keys.length : Int) == 0) = true := by rw [h0]; rfl
    clear h hA b1 b0 k1 h0
    go_enter Tryz.func76, Tryz.ntmps76
    go_wp2_with fail
    go_ret
    exact ⟨rfl, K1.out⟩
  · obtain ⟨g, off, hg, _, hgl, hc⟩ := RdAt.get hA.keys (by omega)
    subst hg
    have q0 := hc 0 _ (tcells_get (by omega))
    have q1 := hc (n.keys.length - 1) _ (tcells_get (by omega))
    rw [Nat.add_zero] at q0
    have e1 : ((n.keys.length : Int) == 0) = false := beq_false_of_ne (by omega)
    obtain ⟨m, hm⟩ : ∃ m, n.keys.length = m + 1 := ⟨n.keys.length - 1, by omega⟩
    have hwr : IntKind.i64.wrap ((n.keys.length : Int) - 1) = (m : Int) := by rw [show (n.keys.length : Int) - 1 = (m : Int) by omega]; exact IntWalk.i64_in _ (by omega)
    have em : n.keys.length - 1 = m := by omega
    have j0 : (0 : Int) ≤ (m : Int) := by omega
    have j1 : (m : Int) < (n.keys.length : Int) := by omega
    have j2 : (0 : Int) < (n.keys.length : Int) := by omega
    have j3 : 0 < n.keys.length := by omega
    have j4 : (0 : Int).toNat = 0 := rfl
    simp only [em] at q1
    have hl0 := less_nil (n.keys[0]'(by omega)).toList
    generalize n.keys[0]'(by omega) = x0 at *
    generalize n.keys[m]'(by omega) = x1 at *
    clear h hA b1 b0 k1 hc hm em
    generalize n.keys.length = N at *
    generalize n.leaf = lf at *
    cases lf
    all_goals
      go_enter Tryz.func76, Tryz.ntmps76
      go_wp2_with fail
    · generalize (w.alloc (.cells #[.string ⟨#[]⟩, .string ⟨#[]⟩] 92)).alloc (.cells #[.bool false, .slice (some ⟨g, off, none⟩) N kc, .slice va n.values.length vc, .slice ia n.kids.length ic] 61) = w2 at *
      go_quiet (fail)
      go_wp2_with fail
      go_ret
      exact ⟨rfl, below_drewN K1.out _⟩
    · generalize (w.alloc (.cells #[.string ⟨#[]⟩, .string ⟨#[]⟩] 92)).alloc (.cells #[.bool true, .slice (some ⟨g, off, none⟩) N kc, .slice va n.values.length vc, .slice ia n.kids.length ic] 61) = w2 at *
      go_quiet (fail)
      go_wp2_with fail
      go_ret
      exact ⟨rfl, below_drewN K1.out _⟩
end
end Go.Proofs.YthmimbmlcihkaaaGreat
