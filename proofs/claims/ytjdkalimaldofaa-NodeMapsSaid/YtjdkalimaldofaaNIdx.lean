/-
  The checks as functions that are values, and slices.IndexFunc with them.
-/
import Derived.Test.YtjdkalimaldofaaNSize4
namespace Go.Proofs.Ytjdkalimaldofaa
open Go.RowKit
set_option linter.unusedSimpArgs false
set_option linter.unusedVariables false

theorem check1_any (w : World) (k : ByteArray) (hk : k.size ≤ 9223372036854775807) : Calls Try.prog 69 #[.string k] w fun e w' => e = .returned (.bool (!(keyOk k))) ∧ w' = w := by
  go_enter Try.func69, Try.ntmps69
  go_wp2_with (go_at_call 36; refine (keyRight_any w k hk).mono ?_; rintro e w3 ⟨rfl, rfl⟩)
  go_ret
  exact ⟨by simp, rfl⟩
theorem check2_any (w : World) (k : ByteArray) (hk : k.size ≤ 9223372036854775807) : Calls Try.prog 70 #[.string k] w fun e w' => e = .returned (.bool (!(valOk k))) ∧ w' = w := by
  go_enter Try.func70, Try.ntmps70
  go_wp2_with (go_at_call 64; refine (valueRight_any w k hk).mono ?_; rintro e w3 ⟨rfl, rfl⟩)
  go_ret
  exact ⟨by simp, rfl⟩
theorem check3_any (w : World) (x : Int) : Calls Try.prog 71 #[.int .i64 x] w fun e w' => e = .returned (.bool (!(kidOk x))) ∧ w' = w := by
  by_cases h : x < 0
  · have e : kidOk x = false := by simp [kidOk]; omega
    rw [e]
    clear e
    go_enter Try.func71, Try.ntmps71
    go_wp2
    go_ret
    exact ⟨by simp, rfl⟩
  · by_cases h2 : (4294967295 : Int) < x
    · have e : kidOk x = false := by simp [kidOk]; omega
      rw [e]
      clear e
      go_enter Try.func71, Try.ntmps71
      go_wp2
      go_ret
      exact ⟨by simp, rfl⟩
    · have e : kidOk x = true := by simp [kidOk]; omega
      rw [e]
      clear e
      go_enter Try.func71, Try.ntmps71
      go_wp2
      go_ret
      exact ⟨by simp, rfl⟩
end Go.Proofs.Ytjdkalimaldofaa
