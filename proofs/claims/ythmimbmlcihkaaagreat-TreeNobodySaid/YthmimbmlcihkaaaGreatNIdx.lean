/-
  The checks as functions that are values, and slices.IndexFunc with them.
-/
import Derived.Test.YthmimbmlcihkaaaGreatNSize4
namespace Go.Proofs.YthmimbmlcihkaaaGreat
open Go.RowKit
set_option linter.unusedSimpArgs false
set_option linter.unusedVariables false
set_option maxRecDepth 100000

theorem check1_any (w : World) (k : ByteArray) (hk : k.size ≤ 9223372036854775807) : Calls Tryz.prog 107 #[.string k] w fun e w' => e = .returned (.bool (!(keyOk k))) ∧ w' = w := by
  go_enter Tryz.func107, Tryz.ntmps107
  go_wp2_with (go_at_call 50; refine (keyRight_any w k hk).mono ?_; rintro e w3 ⟨rfl, rfl⟩)
  go_ret
  exact ⟨by simp, rfl⟩
theorem check2_any (w : World) (k : ByteArray) (hk : k.size ≤ 9223372036854775807) : Calls Tryz.prog 108 #[.string k] w fun e w' => e = .returned (.bool (!(valOk k))) ∧ w' = w := by
  go_enter Tryz.func108, Tryz.ntmps108
  go_wp2_with (go_at_call 51; refine (valueRight_any w k hk).mono ?_; rintro e w3 ⟨rfl, rfl⟩)
  go_ret
  exact ⟨by simp, rfl⟩
theorem check3_any (w : World) (x : Int) : Calls Tryz.prog 109 #[.int .i64 x] w fun e w' => e = .returned (.bool (!(kidOk x))) ∧ w' = w := by
  by_cases h : x < 0
  · have e : kidOk x = false := by simp [kidOk]; omega
    rw [e]
    clear e
    go_enter Tryz.func109, Tryz.ntmps109
    go_wp2
    go_ret
    exact ⟨by simp, rfl⟩
  · by_cases h2 : (4294967295 : Int) < x
    · have e : kidOk x = false := by simp [kidOk]; omega
      rw [e]
      clear e
      go_enter Tryz.func109, Tryz.ntmps109
      go_wp2
      go_ret
      exact ⟨by simp, rfl⟩
    · have e : kidOk x = true := by simp [kidOk]; omega
      rw [e]
      clear e
      go_enter Tryz.func109, Tryz.ntmps109
      go_wp2
      go_ret
      exact ⟨by simp, rfl⟩
end Go.Proofs.YthmimbmlcihkaaaGreat
