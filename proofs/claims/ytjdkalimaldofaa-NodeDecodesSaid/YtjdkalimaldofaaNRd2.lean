/-
  The codec's reader: read.
-/
import Derived.Test.YtjdkalimaldofaaNRd1
import Derived.Test.YtjdkalimaldofaaNHigh
import Derived.Test.YtjdkalimaldofaaNCrc
import Derived.OwnWalk
namespace Go.Proofs.Ytjdkalimaldofaa
open Go.RowKit
set_option linter.unusedSimpArgs false
set_option linter.unusedVariables false
def numTo (t : ByteArray) : Nat → Int
  | 0 => 0
  | k + 1 => numTo t k * 256 + byteAt t k
theorem numTo_in (t : ByteArray) : ∀ k, 0 ≤ numTo t k ∧ numTo t k < 256 ^ k
  | 0 => by simp [numTo]
  | k + 1 => by
    have h := numTo_in t k
    have hb : 0 ≤ byteAt t k ∧ byteAt t k ≤ 255 := by
      unfold byteAt
      split
      · have := t[k].toNat_lt; omega
      · omega
    rw [numTo, Int.pow_succ]
    omega
theorem or_num (x c : Int) (h0 : 0 ≤ x) (h1 : x < 16777216) (c0 : 0 ≤ c) (c1 : c ≤ 255) : bits .or .u64 (IntKind.u64.wrap (x * 256)) (IntKind.u64.wrap c) = x * 256 + c := by
  obtain ⟨a, rfl⟩ := Int.eq_ofNat_of_zero_le h0
  obtain ⟨d, rfl⟩ := Int.eq_ofNat_of_zero_le c0
  rw [IntWalk.u64_in _ ⟨by omega, by omega⟩, IntWalk.u64_in _ ⟨by omega, by omega⟩]
  have e : (256 * a ||| d : Nat) = 256 * a + d := (Nat.two_pow_add_eq_or_of_lt (i := 8) (by omega) a).symm
  have l : 256 * a + d < 18446744073709551616 := by omega
  have h2 : ((a : Int) * 256) = ((256 * a : Nat) : Int) := by omega
  rw [h2]
  refine ((bits_nat .u64 40 (by decide) (fun m h0 h1 => IntWalk.u64_in _ ⟨by omega, by omega⟩) (256 * a) d (by omega) (by omega)).2).trans ?_
  rw [e]
  omega
set_option maxRecDepth 100000 in
theorem rdread_any (w : World) (b : Nat) (s : ByteArray) (e : Int) (k : Nat) (h : Rdr w b s e) (hs : s.size ≤ 8192) (hk : k ≤ 4) :
    Calls Try.prog 80 #[.pointer (some ⟨b, 0, none⟩), .int .i64 k] w fun x w' => x = .returned (.int .u64 (numTo (rawT s e k) (rawT s e k).size)) ∧ Rdr w' b (rawS s e k) (rawE s e k) ∧ Chg (fun j => j = b) w w' := by
  have ht4 : (rawT s e k).size ≤ 4 := by
    unfold rawT
    split
    · rw [ByteArray.size_extract]; omega
    · show 0 ≤ 4; omega
  generalize ht : rawT s e k = t at ht4 ⊢
  go_enter Try.func80, Try.ntmps80
  go_wp2_with fail
  refine (rdraw_any _ b s e k h hs).mono ?_
  rw [ht]
  rintro x w2 ⟨rfl, h2, c2⟩
  have hcv := Lib.run_convert_string_bytes (P := Try.prog) w2 9 36 5 t Try.underlying9 Try.underlying36 Try.underlying5
  have hrd := bytes_rd w2 t (by omega)
  have hbl := bytes_bl w2 t
  have hin : ∀ k, k < t.size → (Lib.bytesWorld w2 5 t).cell? ⟨w2.heap.size, k, none⟩ = some (.int .u8 (byteAt t k)) := fun k hk => by
    rw [Lib.bytesWorld_cell w2 5 t k hk, byteAt, dif_pos hk]
    simp [List.getD, hk]
    rfl
  generalize Lib.bytesWorld w2 5 t = W3 at *
  go_wp2_with fail
  go_loopw [5, 7, 13] (fun c _ i wr => ∃ k : Nat, k ≤ t.size ∧ c = .int .u64 (numTo t k) ∧ i = .int .i64 k ∧ wr = W3) (fun _ _ i _ => t.size - (intOf i).toNat)
  case atStart => exact ⟨0, by omega, rfl, rfl, rfl⟩
  case round =>
    obtain ⟨k, hk, rfl, rfl, rfl⟩ := hrel
    have i0 : (0 : Int) ≤ (k : Int) := by omega
    by_cases hlt : k < t.size
    · have i1 : (k : Int) < (t.size : Int) := by omega
      have c1 := hin k hlt
      go_wp2_with fail
      have hb : 0 ≤ byteAt t k ∧ byteAt t k ≤ 255 := by
        rw [byteAt, dif_pos hlt]
        have := t[k].toNat_lt
        omega
      have hx := numTo_in t k
      have hp : (256 : Int) ^ k ≤ 16777216 := by
        have : k = 0 ∨ k = 1 ∨ k = 2 ∨ k = 3 := by omega
        rcases this with rfl | rfl | rfl | rfl <;> decide
      refine ⟨⟨k + 1, by omega, ?_, by go_num, trivial⟩, by simp [intOf]; omega⟩
      rw [or_num _ _ hx.1 (by omega) hb.1 hb.2]
      rfl
    · obtain rfl : k = t.size := by omega
      go_wp2_with fail
      go_ret
      exact ⟨rfl, h2.bl hbl, c2.trans (Chg.of_below hbl)⟩
def rdNum (s : ByteArray) (e : Int) (k : Nat) : Int := numTo (rawT s e k) (rawT s e k).size
theorem rdNum_in (s : ByteArray) (e : Int) (k : Nat) : 0 ≤ rdNum s e k ∧ rdNum s e k < 256 ^ k := by
  have h := numTo_in (rawT s e k) (rawT s e k).size
  have hk : (rawT s e k).size ≤ k := by
    unfold rawT
    split
    · rw [ByteArray.size_extract]; omega
    · exact Nat.zero_le _
  have hp : (256 : Int) ^ (rawT s e k).size ≤ 256 ^ k := by
    generalize (rawT s e k).size = m at *
    have := Nat.pow_le_pow_right (n := 256) (by decide) hk
    have c1 : ((256 : Int) ^ m) = ((256 ^ m : Nat) : Int) := (Int.natCast_pow 256 m).symm
    have c2 : ((256 : Int) ^ k) = ((256 ^ k : Nat) : Int) := (Int.natCast_pow 256 k).symm
    rw [c1, c2]
    exact Int.ofNat_le.2 this
  unfold rdNum
  omega
theorem rdread_num (w : World) (b : Nat) (s : ByteArray) (e : Int) (k : Nat) (h : Rdr w b s e) (hs : s.size ≤ 8192) (hk : k ≤ 4) :
    Calls Try.prog 80 #[.pointer (some ⟨b, 0, none⟩), .int .i64 k] w fun x w' => x = .returned (.int .u64 (rdNum s e k)) ∧ Rdr w' b (rawS s e k) (rawE s e k) ∧ Chg (fun j => j = b) w w' := rdread_any w b s e k h hs hk
theorem rdu8_any (w : World) (b : Nat) (s : ByteArray) (e : Int) (h : Rdr w b s e) (hs : s.size ≤ 8192) :
    Calls Try.prog 55 #[.pointer (some ⟨b, 0, none⟩)] w fun x w' => x = .returned (.int .u8 (rdNum s e 1)) ∧ Rdr w' b (rawS s e 1) (rawE s e 1) ∧ Chg (fun j => j = b) w w' := by
  have hn : 0 ≤ rdNum s e 1 ∧ rdNum s e 1 ≤ 255 := by
    have h1 := rdNum_in s e 1
    have h2 : (256 : Int) ^ 1 = 256 := by decide
    omega
  have hw : IntKind.u8.wrap (rdNum s e 1) = rdNum s e 1 := IntWalk.u8_in _ hn
  go_enter Try.func55, Try.ntmps55
  go_wp2_with fail
  refine (rdread_num _ b s e 1 h hs (by decide)).mono ?_
  rintro x w2 ⟨rfl, h2, c2⟩
  go_wp2_with fail
  go_ret
  exact ⟨rfl, h2, c2⟩
theorem rdu16_any (w : World) (b : Nat) (s : ByteArray) (e : Int) (h : Rdr w b s e) (hs : s.size ≤ 8192) :
    Calls Try.prog 56 #[.pointer (some ⟨b, 0, none⟩)] w fun x w' => x = .returned (.int .u16 (rdNum s e 2)) ∧ Rdr w' b (rawS s e 2) (rawE s e 2) ∧ Chg (fun j => j = b) w w' := by
  have hn : 0 ≤ rdNum s e 2 ∧ rdNum s e 2 ≤ 65535 := by
    have h1 := rdNum_in s e 2
    have h2 : (256 : Int) ^ 2 = 65536 := by decide
    omega
  have hw : IntKind.u16.wrap (rdNum s e 2) = rdNum s e 2 := IntWalk.u16_in _ hn
  go_enter Try.func56, Try.ntmps56
  go_wp2_with fail
  refine (rdread_num _ b s e 2 h hs (by decide)).mono ?_
  rintro x w2 ⟨rfl, h2, c2⟩
  go_wp2_with fail
  go_ret
  exact ⟨rfl, h2, c2⟩
theorem rdu32_any (w : World) (b : Nat) (s : ByteArray) (e : Int) (h : Rdr w b s e) (hs : s.size ≤ 8192) :
    Calls Try.prog 81 #[.pointer (some ⟨b, 0, none⟩)] w fun x w' => x = .returned (.int .u32 (rdNum s e 4)) ∧ Rdr w' b (rawS s e 4) (rawE s e 4) ∧ Chg (fun j => j = b) w w' := by
  have hn : 0 ≤ rdNum s e 4 ∧ rdNum s e 4 ≤ 4294967295 := by
    have h1 := rdNum_in s e 4
    have h2 : (256 : Int) ^ 4 = 4294967296 := by decide
    omega
  have hw : IntKind.u32.wrap (rdNum s e 4) = rdNum s e 4 := IntWalk.u32_in _ hn
  go_enter Try.func81, Try.ntmps81
  go_wp2_with fail
  refine (rdread_num _ b s e 4 h hs (by decide)).mono ?_
  rintro x w2 ⟨rfl, h2, c2⟩
  go_wp2_with fail
  go_ret
  exact ⟨rfl, h2, c2⟩
end Go.Proofs.Ytjdkalimaldofaa
