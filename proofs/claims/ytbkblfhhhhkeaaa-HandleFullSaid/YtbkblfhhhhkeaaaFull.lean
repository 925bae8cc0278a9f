/-
  HandleFull: the walk: as many descriptors can be opened as there are, and no more; a closed one's number is given again.
-/
import Derived.Test.YtbkblfhhhhkeaaaFullPlain
namespace Go.Proofs.Ytbkblfhhhhkeaaa
open Go.RowKit

set_option maxHeartbeats 400000 in
theorem full_inval (i c : Int) (w : World) (hi : i < 1) : Calls Try.prog 3 #[.int .i64 i, .int .i64 c] w fun e w' => e = .returned (.bool true) ∧ Below w.heap.size w w' := by
  go_enter Try.func3, Try.ntmps3
  go_wp2_with fail
  refine (new_any _).mono ?_; rintro e w1 ⟨rfl, h1, k1⟩
  go_wp2_with fail
  refine (awake_any _).mono ?_; rintro e w2 ⟨rfl, k2⟩
  have h2 := h1.below k2 h1.lt
  go_wp2_with fail
  refine (open_inval _ _ _ _ _ h2 (by decide +kernel) hi).mono ?_; rintro e w3 ⟨rfl, k3⟩
  go_wp2_with fail
  go_ret
  exact ⟨rfl, below_grow (below_grow k1 (Nat.le_refl _) k2) (Nat.le_refl _) k3⟩

set_option maxHeartbeats 800000 in
theorem full_ok (i c : Int) (w : World) (hi : 1 ≤ i) : Calls Try.prog 3 #[.int .i64 i, .int .i64 c] w fun e w' => e = .returned (.bool true) ∧ Below w.heap.size w w' := by
  go_enter Try.func3, Try.ntmps3
  go_wp2_with fail
  refine (new_any _).mono ?_; rintro e w1 ⟨rfl, h1, k1⟩
  go_wp2_with fail
  refine (awake_any _).mono ?_; rintro e w2 ⟨rfl, k2⟩
  have h2 := h1.below k2 h1.lt
  have k12 := below_grow k1 (Nat.le_refl _) k2
  go_wp2_with fail
  go_loopw [8] (fun j wr => ∃ k : Nat, k ≤ 64 ∧ j = .int .i64 k ∧ TabAt wr w.heap.size (opened i k) ∧ Below w.heap.size w wr) (fun j _ => 64 - (intOf j).toNat)
  case atStart => exact ⟨0, by omega, rfl, by rw [opened_zero]; exact h2, k12⟩
  case round =>
    obtain ⟨k, hk, rfl, hr, hbw⟩ := hrel
    by_cases hlt : k < 64
    · have hf := Lib.hid (opened_free i k hi hlt)
      have hs := Lib.hid (opened_set i k hlt)
      go_wp2_with (go_at_call 9; refine (open_at k _ i k hf.out hi _ _ hr).mono ?_; rintro e w3 ⟨rfl, h3, k3⟩)
      go_roundw
      case rel => exact ⟨k + 1, by omega, by go_num, by rw [← hs.out]; exact h3, hbw.trans (k3.belowAt hr.lt)⟩
      case measure => simp [intOf]; omega
    · obtain rfl : k = 64 := by omega
      go_wp2_with fail
      refine (open_full _ _ _ _ _ hr (by rw [opened_full i hi]; omega)).mono ?_; rintro e w3 ⟨rfl, k3⟩
      have h3 := hr.below k3 hr.lt
      go_wp2_with fail
      refine (count_any _ _ _ _ h3).mono ?_; rintro e w4 ⟨rfl, k4⟩
      rw [opened_count i hi]
      have h4 := h3.below k4 h3.lt
      have k34 := below_grow (below_grow hbw (Nat.le_refl _) k3) (Nat.le_refl _) k4
      by_cases hc : 0 ≤ c ∧ c < 64
      · obtain ⟨hc0, hc1⟩ := hc
        obtain ⟨n, rfl⟩ := Int.eq_ofNat_of_zero_le hc0
        have hn : n < 64 := by omega
        have hfi := (show nth (opened i 64) n = (i, (n : Int)) from opened_lo i 64 n hn)
        have hfi2 := Lib.hid (congrArg Prod.fst hfi); clear hfi
        go_wp2_with fail
        refine (close_at n _ i false (opened_isOpen i hi n hn) hfi2.out (opened_last i hi n hn) _ _ h4).mono ?_; rintro e w5 ⟨rfl, h5, k5⟩
        go_wp2_with fail
        refine (open_at n _ i 0 (opened_again i hi n hn) hi _ _ h5).mono ?_; rintro e w6 ⟨rfl, h6, k6⟩
        go_wp2_with fail
        go_ret
        exact ⟨rfl, k34.trans ((k5.belowAt h4.lt).trans (k6.belowAt h5.lt))⟩
      · have hno : isOpen (opened i 64) c = false := by simp [isOpen]; omega
        have H := Lib.hid hno; clear hno
        go_wp2_with fail
        refine (close_no _ _ _ _ h4 H.out).mono ?_; rintro e w5 ⟨rfl, rfl⟩
        go_wp2_with fail
        all_goals go_ret
        all_goals exact ⟨rfl, k34⟩

theorem full_any (i c : Int) (w : World) : Calls Try.prog 3 #[.int .i64 i, .int .i64 c] w fun e w' => e = .returned (.bool true) ∧ Below w.heap.size w w' := by
  by_cases hi : i < 1
  · exact full_inval i c w hi
  · exact full_ok i c w (by omega)
end Go.Proofs.Ytbkblfhhhhkeaaa
