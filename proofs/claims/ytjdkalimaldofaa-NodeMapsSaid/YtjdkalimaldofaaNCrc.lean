/-
  Crc: the program's.
-/
import Derived.Test.YtjdkalimaldofaaNCod3
import Derived.Laws.Closers25b
namespace Go.Proofs.Ytjdkalimaldofaa
open Go.RowKit
set_option linter.unusedSimpArgs false
set_option linter.unusedVariables false
/-- one bit of the check sum -/
def crcStep (y : Int) : Int := bits .xor .u32 (y / 2) (bits .and .u32 2197175160 (-bits .and .u32 y 1 % 4294967296))
def crcN : Nat → Int → Int
  | 0, y => y
  | m + 1, y => crcStep (crcN m y)
def byteAt (s : ByteArray) (k : Nat) : Int := if h : k < s.size then (s[k].toNat : Int) else 0
def crcTo (s : ByteArray) : Nat → Int
  | 0 => 4294967295
  | k + 1 => crcN 8 (bits .xor .u32 (crcTo s k) (byteAt s k % 4294967296))
theorem u32_in (op : BinOp) (a b : Int) : 0 ≤ bits op .u32 a b ∧ bits op .u32 a b ≤ 4294967295 := ⟨(bits_within op .u32 a b).1, (bits_within op .u32 a b).2⟩
theorem crcN_in {y : Int} (h : 0 ≤ y ∧ y ≤ 4294967295) : ∀ m, 0 ≤ crcN m y ∧ crcN m y ≤ 4294967295
  | 0 => h
  | m + 1 => by show 0 ≤ crcStep _ ∧ crcStep _ ≤ _; unfold crcStep; exact u32_in _ _ _
theorem crcTo_in (s : ByteArray) : ∀ k, 0 ≤ crcTo s k ∧ crcTo s k ≤ 4294967295
  | 0 => by simp [crcTo]
  | k + 1 => crcN_in (u32_in _ _ _) 8
def crcOf (s : ByteArray) : Int := bits .xor .u32 IntKind.u32.max (crcTo s s.size)
theorem crcOf_in (s : ByteArray) : 0 ≤ crcOf s ∧ crcOf s ≤ 4294967295 := u32_in _ _ _
set_option maxRecDepth 100000 in
set_option maxHeartbeats 1000000 in
theorem crc_any (w : World) (s : ByteArray) (hs : s.size ≤ 1073741824) :
    Calls Try.prog 47 #[.string s] w fun e w' => e = .returned (.int .u32 (crcOf s)) ∧ w' = w := by
  go_enter Try.func47, Try.ntmps47
  go_wp2_with fail
  go_loopw [3, 4, 7] (fun c _ i wr => ∃ k : Nat, k ≤ s.size ∧ c = .int .u32 (crcTo s k) ∧ i = .int .i64 k ∧ wr = w) (fun _ _ i _ => s.size - (intOf i).toNat)
  case atStart => exact ⟨0, by omega, rfl, rfl, rfl⟩
  case round =>
    obtain ⟨k, hk, rfl, rfl, rfl⟩ := hrel
    have hx := crcTo_in s k
    by_cases hlt : k < s.size
    · have i0 : (0 : Int) ≤ (k : Int) := by omega
      have i1 : (k : Int) < (s.size : Int) := by omega
      have hn : Hid (crcTo s (k + 1) = crcN 8 (bits .xor .u32 (crcTo s k) ((s[k].toNat : Int) % 4294967296))) := by
        show _ = _
        simp only [crcTo, byteAt, dif_pos hlt]
      generalize crcTo s k = x at *
      obtain ⟨hx1, hx2⟩ := hx
      go_wp2_with fail
      have hy := u32_in .xor x (↑s[k].toNat % 4294967296)
      generalize bits BinOp.xor IntKind.u32 x (↑s[k].toNat % 4294967296) = y at *
      go_loopw [3, 16] (fun c i wq => ∃ j : Nat, j ≤ 8 ∧ c = .int .u32 (crcN j y) ∧ i = .int .i64 j ∧ wq = wr) (fun _ i _ => 8 - (intOf i).toNat)
      case atStart => exact ⟨0, by omega, rfl, rfl, rfl⟩
      case round =>
        obtain ⟨j, hj, rfl, rfl, rfl⟩ := hrel
        have hz := crcN_in hy j
        by_cases hj8 : j < 8
        · have j0 : (0 : Int) ≤ (j : Int) := by omega
          have j1 : (j : Int) < 8 := by omega
          have hm : Hid (crcN (j + 1) y = crcStep (crcN j y)) := rfl
          generalize crcN j y = z at *
          obtain ⟨hz1, hz2⟩ := hz
          go_wp2_with fail
          go_roundw
          case rel => exact ⟨j + 1, by omega, by rw [hm.out]; rfl, by go_num, trivial⟩
          case measure => simp [intOf]; omega
        · obtain rfl : j = 8 := by omega
          have j1 : ¬ ((8 : Nat) : Int) < 8 := by omega
          go_wp2_with fail
          go_roundw
          case rel => exact ⟨k + 1, by omega, by rw [hn.out], by go_num, trivial⟩
          case measure => simp [intOf]; omega
    · obtain rfl : k = s.size := by omega
      have hf : Hid (crcOf s = bits .xor .u32 IntKind.u32.max (crcTo s s.size)) := rfl
      obtain ⟨hx1, hx2⟩ := hx
      go_wp2_with fail
      go_ret
      exact ⟨by rw [hf.out]; rfl, rfl⟩
end Go.Proofs.Ytjdkalimaldofaa
