/-
  Crc: the document's; it tells what the program's does.
-/
import Derived.Test.YtjdkalimaldofaaNCrc
namespace Go.Proofs.Ytjdkalimaldofaa
open Go.RowKit
set_option linter.unusedSimpArgs false
set_option linter.unusedVariables false
theorem wraps_u32' (n : Int) (h₀ : 0 ≤ n) (h₁ : n < 2 ^ 32) : IntKind.u32.wrap n = n := by rw [IntKind.wrap_u32]; omega
theorem u32_and1 {y : Int} (h₀ : 0 ≤ y) (h₁ : y ≤ 4294967295) : bits .and .u32 y 1 = y % 2 := bits_mask .u32 32 (by decide) wraps_u32' 1 (by decide) y h₀ (by omega)
theorem u32_poly : bits .and .u32 2197175160 4294967295 = 2197175160 := by decide +kernel
theorem u32_poly0 : bits .and .u32 2197175160 0 = 0 := by decide +kernel
theorem u32_xor0 {y : Int} (h₀ : 0 ≤ y) (h₁ : y ≤ 4294967295) : bits .xor .u32 y 0 = y := by
  obtain ⟨m, rfl⟩ : ∃ m : Nat, y = m := ⟨y.toNat, by omega⟩
  have hm : m % 4294967296 = m := Nat.mod_eq_of_lt (by omega)
  simp only [bits]
  rw [show BitVec.ofInt IntKind.u32.bits 0 = 0#(IntKind.u32.bits) from rfl, BitVec.xor_zero, BitVec.ofInt_natCast, BitVec.toNat_ofNat]
  show IntKind.u32.wrap ((m % 4294967296 : Nat) : Int) = m
  rw [hm]
  exact wraps_u32' _ (by omega) (by omega)
theorem u32_xorc (a b : Int) : bits .xor .u32 a b = bits .xor .u32 b a := by
  simp only [bits]
  rw [BitVec.xor_comm]
theorem crcStep_is {y : Int} (h₀ : 0 ≤ y) (h₁ : y ≤ 4294967295) : crcStep y = if y % 2 = 1 then bits .xor .u32 (y / 2) 2197175160 else y / 2 := by
  unfold crcStep
  rw [u32_and1 h₀ h₁]
  by_cases h : y % 2 = 1
  · rw [if_pos h, h, show (-1 : Int) % 4294967296 = 4294967295 from rfl, u32_poly]
  · have h0 : y % 2 = 0 := by omega
    rw [if_neg h, h0, show (-0 : Int) % 4294967296 = 0 from rfl, u32_poly0, u32_xor0 (by omega) (by omega)]
set_option maxRecDepth 100000 in
set_option maxHeartbeats 1000000 in
theorem refcrc_any (w : World) (s : ByteArray) (hs : s.size ≤ 1073741824) :
    Calls Try.prog 50 #[.string s] w fun e w' => e = .returned (.int .u32 (crcOf s)) ∧ w' = w := by
  go_enter Try.func50, Try.ntmps50
  go_wp2_with fail
  go_loopw [3, 4, 5] (fun c i _ wr => ∃ k : Nat, k ≤ s.size ∧ c = .int .u32 (crcTo s k) ∧ i = .int .i64 k ∧ wr = w) (fun _ i _ _ => s.size - (intOf i).toNat)
  case atStart => exact ⟨0, by omega, rfl, rfl, rfl⟩
  case round =>
    obtain ⟨k, hk, rfl, rfl, rfl⟩ := hrel
    have hx := crcTo_in s k
    by_cases hlt : k < s.size
    · have i0 : (0 : Int) ≤ (k : Int) := by omega
      have i1 : (k : Int) < (s.size : Int) := by omega
      have hn : Hid (crcTo s (k + 1) = crcN 8 (bits .xor .u32 (crcTo s k) ((s[k].toNat : Int) % 4294967296))) := by
        show _ = _
        simp only [crcTo, byteAt, dif_pos hlt]
      generalize crcTo s k = x at *
      obtain ⟨hx1, hx2⟩ := hx
      go_wp2_with fail
      have hy := u32_in .xor x (↑s[k].toNat % 4294967296)
      generalize bits BinOp.xor IntKind.u32 x (↑s[k].toNat % 4294967296) = y at *
      go_loopw [3, 5] (fun c i wq => ∃ j : Nat, j ≤ 8 ∧ c = .int .u32 (crcN j y) ∧ i = .int .i64 j ∧ wq = wr) (fun _ i _ => 8 - (intOf i).toNat)
      case atStart => exact ⟨0, by omega, rfl, rfl, rfl⟩
      case round =>
        obtain ⟨j, hj, rfl, rfl, rfl⟩ := hrel
        have hz := crcN_in hy j
        by_cases hj8 : j < 8
        · have j0 : (0 : Int) ≤ (j : Int) := by omega
          have j1 : (j : Int) < 8 := by omega
          have hm : Hid (crcN (j + 1) y = crcStep (crcN j y)) := rfl
          generalize crcN j y = z at *
          obtain ⟨hz1, hz2⟩ := hz
          have hst := crcStep_is hz1 hz2
          by_cases hodd : z % 2 = 1
          · rw [if_pos hodd] at hst
            have HST := Lib.hid hst
            clear hst
            go_wp2_with fail
            go_roundw
            case rel => exact ⟨j + 1, by omega, by rw [hm.out, HST.out], by go_num, trivial⟩
            case measure => simp [intOf]; omega
          · rw [if_neg hodd] at hst
            have HST := Lib.hid hst
            clear hst
            have hodd2 : (z % 2 == 1) = false := by simpa using hodd
            go_wp2_with fail
            go_roundw
            case rel => exact ⟨j + 1, by omega, by rw [hm.out, HST.out], by go_num, trivial⟩
            case measure => simp [intOf]; omega
        · obtain rfl : j = 8 := by omega
          have j1 : ¬ ((8 : Nat) : Int) < 8 := by omega
          go_wp2_with fail
          go_roundw
          case rel => exact ⟨k + 1, by omega, by rw [hn.out], by go_num, trivial⟩
          case measure => simp [intOf]; omega
    · obtain rfl : k = s.size := by omega
      have hf : Hid (crcOf s = bits .xor .u32 (crcTo s s.size) 4294967295) := by show _ = _; rw [crcOf, u32_xorc]; rfl
      obtain ⟨hx1, hx2⟩ := hx
      go_wp2_with fail
      go_ret
      exact ⟨by rw [hf.out]; rfl, rfl⟩
end Go.Proofs.Ytjdkalimaldofaa
