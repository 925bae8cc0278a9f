/-
  The document's disk: power, New, Load; and what Load of package disk refuses.
-/
import Derived.Test.YtjjgihaikcnjgaaDLaw
namespace Go.Proofs.Ytjjgihaikcnjgaa
open Go.RowKit
set_option linter.unusedSimpArgs false
set_option linter.unusedVariables false
set_option maxRecDepth 100000

theorem power_any (w : World) (n : Int) : Calls Try.prog 75 #[.int .i64 n, .int .i64 512, .int .i64 4096] w fun e w' => e = .returned (.bool (power2 n)) ∧ w = w' := by
  go_enter Try.func75, Try.ntmps75
  go_wp2
  go_loop [7] (fun i => (i = .int .i64 512) ∨ (i = .int .i64 1024 ∧ Hid (n ≠ 512)) ∨ (i = .int .i64 2048 ∧ Hid (n ≠ 512 ∧ n ≠ 1024)) ∨ (i = .int .i64 4096 ∧ Hid (n ≠ 512 ∧ n ≠ 1024 ∧ n ≠ 2048)) ∨ (i = .int .i64 8192 ∧ Hid (n ≠ 512 ∧ n ≠ 1024 ∧ n ≠ 2048 ∧ n ≠ 4096))) (fun i => 8192 - (intOf i).toNat)
  case atStart => exact Or.inl rfl
  case round =>
    rcases hrel with rfl | ⟨rfl, hne⟩ | ⟨rfl, hne⟩ | ⟨rfl, hne⟩ | ⟨rfl, hne⟩
    · by_cases e : n = 512
      · have e' : (n == 512) = true := by simp [e]
        have he : Hid (power2 n = true) := by show _ = _; simp [power2, e]
        clear e
        go_wp2
        go_ret
        exact ⟨by rw [he.out]; rfl, rfl⟩
      · have e' : (n == 512) = false := by simp [e]
        have hne' : Hid (n ≠ 512) := e
        clear e
        go_wp2
        go_round
        case rel => exact Or.inr (Or.inl ⟨rfl, hne'⟩)
        case measure => simp [intOf]
    · by_cases e : n = 1024
      · have e' : (n == 1024) = true := by simp [e]
        have he : Hid (power2 n = true) := by show _ = _; simp [power2, e]
        clear e
        go_wp2
        go_ret
        exact ⟨by rw [he.out]; rfl, rfl⟩
      · have e' : (n == 1024) = false := by simp [e]
        have hne' : Hid (n ≠ 512 ∧ n ≠ 1024) := by have := hne.out; show n ≠ 512 ∧ n ≠ 1024; omega
        clear e
        go_wp2
        go_round
        case rel => exact Or.inr (Or.inr (Or.inl ⟨rfl, hne'⟩))
        case measure => simp [intOf]
    · by_cases e : n = 2048
      · have e' : (n == 2048) = true := by simp [e]
        have he : Hid (power2 n = true) := by show _ = _; simp [power2, e]
        clear e
        go_wp2
        go_ret
        exact ⟨by rw [he.out]; rfl, rfl⟩
      · have e' : (n == 2048) = false := by simp [e]
        have hne' : Hid (n ≠ 512 ∧ n ≠ 1024 ∧ n ≠ 2048) := by have := hne.out; show n ≠ 512 ∧ n ≠ 1024 ∧ n ≠ 2048; omega
        clear e
        go_wp2
        go_round
        case rel => exact Or.inr (Or.inr (Or.inr (Or.inl ⟨rfl, hne'⟩)))
        case measure => simp [intOf]
    · by_cases e : n = 4096
      · have e' : (n == 4096) = true := by simp [e]
        have he : Hid (power2 n = true) := by show _ = _; simp [power2, e]
        clear e
        go_wp2
        go_ret
        exact ⟨by rw [he.out]; rfl, rfl⟩
      · have e' : (n == 4096) = false := by simp [e]
        have hne' : Hid (n ≠ 512 ∧ n ≠ 1024 ∧ n ≠ 2048 ∧ n ≠ 4096) := by have := hne.out; show n ≠ 512 ∧ n ≠ 1024 ∧ n ≠ 2048 ∧ n ≠ 4096; omega
        clear e
        go_wp2
        go_round
        case rel => exact Or.inr (Or.inr (Or.inr (Or.inr ⟨rfl, hne'⟩)))
        case measure => simp [intOf]
    · have h := hne.out
      have he : Hid (power2 n = false) := by show _ = _; simp [power2, h]
      clear h
      go_wp2
      go_ret
      exact ⟨by rw [he.out]; rfl, rfl⟩
theorem fits_split (size count : Int) : fitsD size count = (power2 size && (decide (1 ≤ count) && decide (count ≤ 4096))) := by rw [fitsD, pow2B_eq]
theorem fits_power {size count : Int} (h : fitsD size count = true) : power2 size = true ∧ 1 ≤ count ∧ count ≤ 4096 := by
  rw [fits_split] at h; simp at h; exact h
theorem refnew_no (w : World) (size count : Int) (h : fitsD size count = false) :
    Calls Try.prog 53 #[.int .i64 size, .int .i64 count] w fun e w' => e = .returned (.tuple #[.pointer none, .int .i64 1]) ∧ w = w' := by
  rw [fits_split] at h
  cases hp : power2 size with
  | false =>
    have Hp := Lib.hid hp; clear hp h
    go_enter Try.func53, Try.ntmps53
    go_wp2_with (go_at_call 75; refine (power_any _ _).mono ?_; rintro e w' ⟨rfl, rfl⟩; rw [Hp.out])
    go_ret2
    exact ⟨rfl, rfl⟩
  | true =>
    rw [hp] at h
    have Hp := Lib.hid hp; clear hp
    by_cases h1 : count < 1
    · clear h
      go_enter Try.func53, Try.ntmps53
      go_wp2_with (go_at_call 75; refine (power_any _ _).mono ?_; rintro e w' ⟨rfl, rfl⟩; rw [Hp.out])
      go_ret2
      exact ⟨rfl, rfl⟩
    · have h2 : count > 4096 := by
        simp at h; omega
      clear h
      go_enter Try.func53, Try.ntmps53
      go_wp2_with (go_at_call 75; refine (power_any _ _).mono ?_; rintro e w' ⟨rfl, rfl⟩; rw [Hp.out])
      go_ret2
      exact ⟨rfl, rfl⟩
theorem refnew_in (w : World) (size count : Int) (h : fitsD size count = true) (col : Nat → Nat) (c : Nat) :
    Calls Try.prog 53 #[.int .i64 size, .int .i64 count] w fun e w' => e = .returned (.tuple #[.pointer (some ⟨w.heap.size + 1, 0, none⟩), .int .i64 0]) ∧
      DiskIn w' 108 (col2 col w.heap.size (c + 1) c) c (w.heap.size + 1) (DS.new size count) (some ⟨w.heap.size, 0, none⟩) (size * count).toNat none 0 0 [] ∧ Below w.heap.size w w' ∧ w'.heap.size = w.heap.size + 2 := by
  obtain ⟨a0, a1, a2, a3⟩ := fits_bounds h
  obtain ⟨m0, m1⟩ := mul_bounds (a := size) (b := count) (by omega) a1 (by omega) a3
  obtain ⟨i0, hi, hz0, hz1, hz2⟩ := info_parts info5
  have hmk : ∀ u : World, (Instr.makeSlice 34 (.int .i64 (size * count)) (.int .i64 (size * count))).run Try.prog u =
      .ok (.slice (some ⟨u.heap.size, 0, none⟩) (size * count).toNat (size * count).toNat) (u.alloc (.cells (bcells (zeros (size * count).toNat)).toArray 5)) := fun u => by
    have h := run_make (P := Try.prog) u 34 5 i0 (.int .u8 0) Try.underlying34 hi hz0 .i64 .i64 (size * count) (size * count) m0 (Int.le_refl _) (by rw [hz2]; omega) (by omega)
    rw [hz1, Nat.mul_one] at h
    rw [← madeCells_zeros]
    exact h
  have hmul : IntKind.i64.wrap (size * count) = size * count := IntWalk.i64_in _ (by omega)
  have Hp := Lib.hid (fits_power h).1
  clear h
  have H2 := Lib.hid (show (DS.new size count).platter.length = (size * count).toNat by simp [DS.new, zeros])
  go_enter Try.func53, Try.ntmps53
  go_wp2_with (go_at_call 75; refine (power_any _ _).mono ?_; rintro e w' ⟨rfl, rfl⟩; rw [Hp.out])
  go_ret2
  have hlen : (zeros (size * count).toNat).length = (size * count).toNat := by simp [zeros]
  refine ⟨rfl, ⟨?_, ?_, ?_, SlAt.nil _ _ _ _ _, rfl, rfl⟩, ((Below.refl _ _).alloc (Nat.le_refl _) _).alloc (by simp) _, by simp⟩
  · simp only [DS.new, dcells, hlen]
    rw [show w.heap.size + 1 = (w.alloc (.cells (bcells (zeros (size * count).toNat)).toArray 5)).heap.size by simp]
    exact block_new _ _
  · exact col2_b _ _ _ _
  · simp only [DS.new, hlen]
    refine ⟨by simp [zeros], Or.inr ⟨w.heap.size, 0, _, _, rfl, col2_a _ _ _ _, block_old _ (block_new _ _), Nat.le_refl _, by unfold maxLen; omega, by simp [zeros], ?_⟩⟩
    simp [zeros, bcells]

theorem refnew_ok (w : World) (size count : Int) (h : fitsD size count = true) (col : Nat → Nat) (c : Nat) :
    Calls Try.prog 53 #[.int .i64 size, .int .i64 count] w fun e w' => NewDisk w 108 col c (DS.new size count) e w' ∧ Below w.heap.size w w' := by
  refine (refnew_in w size count h col c).mono ?_
  rintro e w' ⟨rfl, hd, hb, hz⟩
  exact ⟨⟨_, _, rfl, by omega, hd.at, col2_ext _ _ _ _, col2_norm _ _ _ () hz⟩, hb⟩
end Go.Proofs.Ytjjgihaikcnjgaa
