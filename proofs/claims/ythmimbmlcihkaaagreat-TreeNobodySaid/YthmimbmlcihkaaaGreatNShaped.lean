/-
  shaped: the program's.
-/
import Derived.Test.YthmimbmlcihkaaaGreatNIdx3
namespace Go.Proofs.YthmimbmlcihkaaaGreat
open Go.RowKit
set_option linter.unusedSimpArgs false
set_option linter.unusedVariables false
set_option maxRecDepth 100000

def ND.shaped (n : ND) (b : Bool) : Bool := n.form && (n.leaf || b || decide (0 < n.keys.length))
set_option maxHeartbeats 2000000 in
theorem shaped_any (w : World) (own : Nat → Prop) (v : Value) (n : ND) (b : Bool) (hv : NodeAt w own v n) (hs : n.Small) :
    Calls Tryz.prog 111 #[v, .bool b] w fun e w' => e = .returned (.bool (n.shaped b)) ∧ Bl w w' := by
  obtain ⟨ka, kc, va, vc, ia, ic, rfl, h⟩ := hv
  have kB : Bl w (w.alloc (.cells (nbox n ka kc va vc ia ic) 61)) := (Bl.refl w).alloc _
  have b1 : (w.alloc (.cells (nbox n ka kc va vc ia ic) 61)).heap[w.heap.size]? = some (.cells (nbox n ka kc va vc ia ic) 61 (0, 0)) := block_new _ _
  obtain ⟨_, _, _, hmax⟩ := RdAt.shape h.keys
  obtain ⟨_, _, _, hmax2⟩ := RdAt.shape h.kids
  obtain ⟨_, _, _, hmax3⟩ := RdAt.shape h.values
  unfold maxLen at hmax hmax2 hmax3
  have hk30 := hs.keys
  unfold nodeV
  unfold nbox at kB b1
  go_enter Tryz.func111, Tryz.ntmps111
  cases hf : n.leaf with
  | true =>
    rw [hf] at kB b1
    by_cases h1 : n.values.length = n.keys.length
    · have q1 : (n.values.length : Int) = (n.keys.length : Int) := by omega
      by_cases h2 : n.kids.length = 0
      · have q2 : (n.kids.length : Int) = 0 := by omega
        have hz : n.shaped b = true := by simp [ND.shaped, ND.form, hf, h1, h2]
        have HF := Lib.hid hz
        clear hz h1 h2
        go_wp2_with fail
        go_ret
        exact ⟨by rw [HF.out]; rfl, kB⟩
      · have q2 : ¬ (n.kids.length : Int) = 0 := by omega
        have q2b : ((n.kids.length : Int) == 0) = false := by simpa using q2
        have hz : n.shaped b = false := by simp [ND.shaped, ND.form, hf, h1, h2]
        have HF := Lib.hid hz
        clear hz h1 h2
        go_wp2_with fail
        go_ret
        exact ⟨by rw [HF.out]; rfl, kB⟩
    · have q1 : ¬ (n.values.length : Int) = (n.keys.length : Int) := by omega
      have q1b : ((n.values.length : Int) == (n.keys.length : Int)) = false := by simpa using q1
      have hz : n.shaped b = false := by simp [ND.shaped, ND.form, hf, h1]
      have HF := Lib.hid hz
      clear hz h1
      go_wp2_with fail
      go_ret
      exact ⟨by rw [HF.out]; rfl, kB⟩
  | false =>
    rw [hf] at kB b1
    by_cases h1 : n.values.length = 0
    · have q1 : (n.values.length : Int) = 0 := by omega
      by_cases h2 : n.kids.length = n.keys.length + 1
      · have q2 : (n.kids.length : Int) = (n.keys.length : Int) + 1 := by omega
        cases b with
        | true =>
          have hz : n.shaped true = true := by simp [ND.shaped, ND.form, hf, h1, h2]
          have HF := Lib.hid hz
          clear hz h1 h2
          go_wp2_with fail
          go_ret
          exact ⟨by rw [HF.out]; rfl, kB⟩
        | false =>
          by_cases h3 : 0 < n.keys.length
          · have q3 : (0 : Int) < (n.keys.length : Int) := by omega
            have hz : n.shaped false = true := by simp [ND.shaped, ND.form, hf, h1, h2, h3]
            have HF := Lib.hid hz
            clear hz h1 h2
            go_wp2_with fail
            go_ret
            exact ⟨by rw [HF.out]; rfl, kB⟩
          · have q3 : ¬ (0 : Int) < (n.keys.length : Int) := by omega
            have hz : n.shaped false = false := by simp [ND.shaped, ND.form, hf, h1, h2, h3]
            have HF := Lib.hid hz
            clear hz h1 h2
            go_wp2_with fail
            go_ret
            exact ⟨by rw [HF.out]; rfl, kB⟩
      · have q2 : ¬ (n.kids.length : Int) = (n.keys.length : Int) + 1 := by omega
        have q2b : ((n.kids.length : Int) == (n.keys.length : Int) + 1) = false := by simpa using q2
        have hz : n.shaped b = false := by simp [ND.shaped, ND.form, hf, h1, h2]
        have HF := Lib.hid hz
        clear hz h1 h2
        go_wp2_with fail
        go_ret
        exact ⟨by rw [HF.out]; rfl, kB⟩
    · have q1 : ¬ (n.values.length : Int) = 0 := by omega
      have q1b : ((n.values.length : Int) == 0) = false := by simpa using q1
      have hz : n.shaped b = false := by simp [ND.shaped, ND.form, hf, h1]
      have HF := Lib.hid hz
      clear hz h1
      go_wp2_with fail
      go_ret
      exact ⟨by rw [HF.out]; rfl, kB⟩
end Go.Proofs.YthmimbmlcihkaaaGreat
