/-
  Lengths of keys and values: keyRight, valueRight, the document's lengths; entries and sizes of both.
-/
import Derived.Test.YthmimbmlcihkaaaGreatNRef1
namespace Go.Proofs.YthmimbmlcihkaaaGreat
open Go.RowKit
set_option linter.unusedSimpArgs false
set_option linter.unusedVariables false
set_option maxRecDepth 100000

def keyOk (k : ByteArray) : Bool := decide (1 ≤ k.size) && decide (k.size ≤ 64)
def valOk (k : ByteArray) : Bool := decide (k.size ≤ 64)
theorem keyRight_any (w : World) (k : ByteArray) (hk : k.size ≤ 9223372036854775807) : Calls Tryz.prog 50 #[.string k] w fun e w' => e = .returned (.bool (keyOk k)) ∧ w = w' := by
  by_cases h1 : 1 ≤ k.size
  · by_cases h2 : k.size ≤ 64
    · have e : keyOk k = true := by simp [keyOk, h1, h2]
      rw [e]
      clear e
      have j1 : (1 : Int) ≤ (k.size : Int) := by omega
      have j2 : (k.size : Int) ≤ 64 := by omega
      go_enter Tryz.func50, Tryz.ntmps50
      go_wp2
      go_ret
      exact ⟨by simp, rfl⟩
    · have e : keyOk k = false := by simp [keyOk]; omega
      rw [e]
      clear e
      have j1 : (1 : Int) ≤ (k.size : Int) := by omega
      have j2 : ¬ (k.size : Int) ≤ 64 := by omega
      go_enter Tryz.func50, Tryz.ntmps50
      go_wp2
      go_ret
      exact ⟨by simp, rfl⟩
  · have e : keyOk k = false := by simp [keyOk]; omega
    rw [e]
    clear e
    have j1 : ¬ (1 : Int) ≤ (k.size : Int) := by omega
    go_enter Tryz.func50, Tryz.ntmps50
    go_wp2
    go_ret
    exact ⟨by simp, rfl⟩
theorem valueRight_any (w : World) (k : ByteArray) (hk : k.size ≤ 9223372036854775807) : Calls Tryz.prog 51 #[.string k] w fun e w' => e = .returned (.bool (valOk k)) ∧ w = w' := by
  go_enter Tryz.func51, Tryz.ntmps51
  go_wp2
  go_ret
  exact ⟨by simp [valOk]; omega, rfl⟩

def ND.lens (n : ND) : Bool := n.keys.all keyOk && n.values.all valOk
end Go.Proofs.YthmimbmlcihkaaaGreat
