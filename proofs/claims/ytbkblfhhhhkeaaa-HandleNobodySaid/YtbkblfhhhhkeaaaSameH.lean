/-
  The law's 'same'.
-/
import Derived.Test.YtbkblfhhhhkeaaaOpsH
namespace Go.Proofs.Ytbkblfhhhhkeaaa
open Go.RowKit
set_option linter.unusedSimpArgs false
set_option linter.unusedVariables false

set_option maxHeartbeats 2000000 in
theorem same_any (w : World) (bad : List Nat) (b r : Nat) (l : List (Int × Int)) (h : Pair w bad b r l) :
    Calls Try.prog 13 #[.pointer (some ⟨b, 0, none⟩), .pointer (some ⟨r, 0, none⟩)] w fun e w' => e = .returned (.bool true) ∧ Below w.heap.size w w' := by
  obtain ⟨ra, rcap, hr⟩ := h.ref
  have c0 : w.drew.cell? ⟨r, 0, none⟩ = some (.slice ra (opens l).length rcap) := hr.list
  have hlt := h.tab.lt
  have l64 := opens_len l
  have hD := h.below (Below.refl _ _).drew
  have hrD := hr.below (Below.refl w.heap.size w).drew
  go_enter Try.func13, Try.ntmps13
  go_wp2_with fail
  go_region_held3 (fun w' => w'.cell? ⟨r, 0, none⟩ = some (.slice ra (opens l).length rcap)) (first | exact c0 | exact y3 | exact y4 | exact y5 | exact y6 | exact y7) (first
    | (go_at_call 16; refine (all_rd w.drew b l hD.tab).mono ?_; rintro e w3 ⟨⟨a3, cap3, rfl, ow3⟩, k3⟩; (have h3 := hD.below k3); (have hr3 := hrD.below k3); (have y3 := hr3.list))
    | (go_at_call 26; refine (same_handles w3 _ _ _ _ (opens l) l64 (rd_of_owns ow3) hr3.rd).mono ?_; rintro e w4 ⟨rfl, k4⟩; (have h4 := h3.below k4); (have hr4 := hr3.below k4); (have y4 := hr4.list))
    | (go_at_call 17; refine (hinodes_any w4 b l h4.tab h4.ok).mono ?_; rintro e w5 ⟨⟨a5, c5, rfl, r5⟩, k5⟩; (have hr5 := hr4.below k5); (have y5 := hr5.list))
    | (go_at_call 28; refine (rinodes_any w5 r _ _ _ _ hr5).mono ?_; rintro e w6 ⟨⟨a6, c6, rfl, r6⟩, k6⟩; (have hr6 := hr5.below k6); (have y6 := hr6.list); (have r56 := RdAt.below r5 k6))
    | (go_at_call 27; refine (same_ints w6 _ _ _ _ _ r56 r6).mono ?_; rintro e w7 ⟨rfl, k7⟩; (have y7 := (hr6.below k7).list)))
  all_goals go_wp2
  all_goals go_ret
  all_goals exact ⟨rfl, (Below.refl w.heap.size w).drew.trans ((k3.trans ((k4.trans ((k5.trans ((k6.trans (k7.mono k6.size)).mono k5.size)).mono k4.size)).mono k3.size)))⟩
end Go.Proofs.Ytbkblfhhhhkeaaa
