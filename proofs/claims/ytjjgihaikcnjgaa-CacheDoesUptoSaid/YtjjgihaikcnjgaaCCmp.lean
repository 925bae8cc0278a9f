/-
  The comparison of frames: cmp.Compare, cmp.Or, the closure of WriteUpTo.
-/
import Derived.Test.YtjjgihaikcnjgaaCWalk1
namespace Go.Proofs.Ytjjgihaikcnjgaa
open Go.RowKit Go.Maps
set_option linter.unusedSimpArgs false
set_option linter.unusedVariables false
set_option maxRecDepth 100000

def cmp3 (x y : Int) : Int := if x < y then -1 else if y < x then 1 else 0
theorem isnan_u (w : World) (x : Int) : Calls Try.prog 71 #[.int .u64 x] w fun e w' => e = .returned (.bool false) ∧ w' = w := by
  go_enter Try.func71, Try.ntmps71
  go_wp2
  go_ret
  exact ⟨by simp, rfl⟩
theorem isnan_i (w : World) (x : Int) : Calls Try.prog 72 #[.int .i64 x] w fun e w' => e = .returned (.bool false) ∧ w' = w := by
  go_enter Try.func72, Try.ntmps72
  go_wp2
  go_ret
  exact ⟨by simp, rfl⟩
theorem compare_u (w : World) (x y : Int) : Calls Try.prog 45 #[.int .u64 x, .int .u64 y] w fun e w' => e = .returned (.int .i64 (cmp3 x y)) ∧ w' = w := by
  unfold cmp3
  by_cases h1 : x < y
  · rw [if_pos h1]
    go_enter Try.func45, Try.ntmps45
    go_wp2_with fail
    refine (isnan_u _ _).mono ?_
    rintro e w1 ⟨rfl, rfl⟩
    go_wp2_with fail
    refine (isnan_u _ _).mono ?_
    rintro e w1 ⟨rfl, rfl⟩
    go_wp2_with fail
    go_ret
    exact ⟨rfl, rfl⟩
  · rw [if_neg h1]
    by_cases h2 : y < x
    · rw [if_pos h2]
      go_enter Try.func45, Try.ntmps45
      go_wp2_with fail
      refine (isnan_u _ _).mono ?_
      rintro e w1 ⟨rfl, rfl⟩
      go_wp2_with fail
      refine (isnan_u _ _).mono ?_
      rintro e w1 ⟨rfl, rfl⟩
      go_wp2_with fail
      go_ret
      exact ⟨rfl, rfl⟩
    · rw [if_neg h2]
      go_enter Try.func45, Try.ntmps45
      go_wp2_with fail
      refine (isnan_u _ _).mono ?_
      rintro e w1 ⟨rfl, rfl⟩
      go_wp2_with fail
      refine (isnan_u _ _).mono ?_
      rintro e w1 ⟨rfl, rfl⟩
      go_wp2_with fail
      go_ret
      exact ⟨rfl, rfl⟩
theorem compare_i (w : World) (x y : Int) : Calls Try.prog 46 #[.int .i64 x, .int .i64 y] w fun e w' => e = .returned (.int .i64 (cmp3 x y)) ∧ w' = w := by
  unfold cmp3
  by_cases h1 : x < y
  · rw [if_pos h1]
    go_enter Try.func46, Try.ntmps46
    go_wp2_with fail
    refine (isnan_i _ _).mono ?_
    rintro e w1 ⟨rfl, rfl⟩
    go_wp2_with fail
    refine (isnan_i _ _).mono ?_
    rintro e w1 ⟨rfl, rfl⟩
    go_wp2_with fail
    go_ret
    exact ⟨rfl, rfl⟩
  · rw [if_neg h1]
    by_cases h2 : y < x
    · rw [if_pos h2]
      go_enter Try.func46, Try.ntmps46
      go_wp2_with fail
      refine (isnan_i _ _).mono ?_
      rintro e w1 ⟨rfl, rfl⟩
      go_wp2_with fail
      refine (isnan_i _ _).mono ?_
      rintro e w1 ⟨rfl, rfl⟩
      go_wp2_with fail
      go_ret
      exact ⟨rfl, rfl⟩
    · rw [if_neg h2]
      go_enter Try.func46, Try.ntmps46
      go_wp2_with fail
      refine (isnan_i _ _).mono ?_
      rintro e w1 ⟨rfl, rfl⟩
      go_wp2_with fail
      refine (isnan_i _ _).mono ?_
      rintro e w1 ⟨rfl, rfl⟩
      go_wp2_with fail
      go_ret
      exact ⟨rfl, rfl⟩
def or2 (x y : Int) : Int := if x = 0 then y else x
theorem or_any (w : World) (g : Nat) (x y : Int) (hx : w.cell? ⟨g, 0, none⟩ = some (.int .i64 x)) (hy : w.cell? ⟨g, 1, none⟩ = some (.int .i64 y)) : Calls Try.prog 44 #[.slice (some ⟨g, 0, none⟩) 2 2] w fun e w' => e = .returned (.int .i64 (or2 x y)) ∧ w' = w := by
  unfold or2
  go_enter Try.func44, Try.ntmps44
  go_wp2
  go_loop [8] (fun q => q = .int .i64 0 ∨ (q = .int .i64 1 ∧ x = 0) ∨ (q = .int .i64 2 ∧ x = 0 ∧ y = 0)) (fun q => 2 - (intOf q).toNat)
  case atStart => exact Or.inl rfl
  case round =>
    rcases hrel with rfl | ⟨rfl, h1⟩ | ⟨rfl, h1, h2⟩
    · by_cases h1 : x = 0
      · have e1 : (x == 0) = true := by simp [h1]
        have H1 := Lib.hid h1
        clear h1
        go_wp2
        go_round
        case rel => exact Or.inr (Or.inl ⟨rfl, H1.out⟩)
        case measure => simp [intOf]
      · have e1 : (x == 0) = false := by simp [h1]
        have H1 := Lib.hid h1
        clear h1
        go_wp2
        go_ret
        first | exact ⟨rfl, rfl⟩ | exact ⟨by rw [if_neg H1.out]; rfl, rfl⟩
    · have H1 := Lib.hid h1
      clear h1
      by_cases h2 : y = 0
      · have e1 : (y == 0) = true := by simp [h2]
        have H2 := Lib.hid h2
        clear h2
        go_wp2
        go_round
        case rel => exact Or.inr (Or.inr ⟨rfl, H1.out, H2.out⟩)
        case measure => simp [intOf]
      · have e1 : (y == 0) = false := by simp [h2]
        have H2 := Lib.hid h2
        clear h2
        go_wp2
        go_ret
        first | exact ⟨rfl, rfl⟩ | exact ⟨by rw [if_pos H1.out]; rfl, rfl⟩
    · have H1 := Lib.hid h1
      have H2 := Lib.hid h2
      clear h1 h2
      go_wp2
      go_ret
      first | exact ⟨by rw [H2.out]; rfl, rfl⟩ | exact ⟨by rw [if_pos H1.out, H2.out]; rfl, rfl⟩
/-- the closure at two frames -/
def cmpF (a b : Frm) : Int := or2 (cmp3 a.order b.order) (cmp3 a.sector b.sector)
theorem closure_any (w : World) (a b p q p' q' : Nat) (f g : Frm) (v v' : Value) (ha : w.heap[a]? = some (.cells (nodeC p q f v) 78 (0, 0))) (hb : w.heap[b]? = some (.cells (nodeC p' q' g v') 78 (0, 0))) :
    Calls Try.prog 43 #[ptr a, ptr b] w fun e w' => e = .returned (.int .i64 (cmpF f g)) ∧ ∃ o, w' = w.drew.alloc o := by
  obtain ⟨-, -, a2, -, -, a5, -, -⟩ := cells_node ha
  obtain ⟨-, -, b2, -, -, b5, -, -⟩ := cells_node hb
  unfold ptr cmpF
  clear ha hb
  go_enter Try.func43, Try.ntmps43
  go_wp2_with fail
  go_still_tail 22, (by kernel_rfl)
  still_call (compare_u _ _ _)
  repeat still_step
  still_call (compare_i _ _ _)
  repeat still_step
  refine wpStill_nil ?_
  change wpList _ _ _ _ _ w.drew
  generalize hw2 : w.drew = w2
  go_wp2_with fail
  refine (or_any _ _ _ _ (by rw [cell_of_block (block_new _ _)]; rfl) (by rw [cell_of_block (block_new _ _)]; rfl)).mono ?_
  rintro e w3 ⟨rfl, rfl⟩
  go_wp2_with fail
  go_ret
  exact ⟨rfl, _, by rw [hw2]⟩
end Go.Proofs.Ytjjgihaikcnjgaa
