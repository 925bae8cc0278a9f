/-
  The codec's writer: numbers.
-/
import Derived.Test.YtjdkalimaldofaaNCod1
import Derived.Handy
namespace Go.Proofs.Ytjdkalimaldofaa
open Go.RowKit
set_option linter.unusedSimpArgs false
set_option linter.unusedVariables false
theorem madeCells_zeros (n : Nat) : madeCells #[Value.int .u8 0] n = (bcells (List.replicate n 0)).toArray := by
  apply Array.ext
  · simp [madeCells]
  · intro i h1 h2
    have e : i % 1 = 0 := by omega
    simp [madeCells, bcells, e]
def be1 (x : Int) : List Int := [x]
set_option maxRecDepth 100000 in
set_option maxHeartbeats 1000000 in
theorem number1_any (w : World) (M b : Nat) (most : Int) (xs : List Int) (hw : Wr w M b most xs) (hm : most ≤ 1073741824) (x : Int) (h0 : 0 ≤ x) (h1 : x ≤ 255) (hfit : (xs.length : Int) + 1 ≤ most) :
    Calls Try.prog 76 #[.pointer (some ⟨b, 0, none⟩), .int .u8 x, .int .i64 1] w fun e w' => e = .returned (.tuple #[]) ∧ Wr w' M b most (xs ++ be1 x) ∧ Chg (fun j => M ≤ j) w w' := by
  obtain ⟨i5, hi5, hz0, hz1, hz2⟩ := info_parts info5
  have hmk : ∀ u : World, (Instr.makeSlice 36 (.int .i64 1) (.int .i64 1)).run Try.prog u = .ok (.slice (some ⟨u.heap.size, 0, none⟩) 1 1) (u.alloc (.cells #[.int .u8 0] 5)) := fun u => by
    have h := run_make (P := Try.prog) u 36 5 i5 (.int .u8 0) Try.underlying36 hi5 hz0 .i64 .i64 1 1 (by omega) (Int.le_refl _) (by rw [hz2]; omega) (by omega)
    rw [hz1, Nat.mul_one] at h
    have e : madeCells (Value.int .u8 0).cells (Int.toNat 1) = #[.int .u8 0] := (madeCells_zeros 1).trans rfl
    rw [e] at h
    exact h
  have hk : Bl w (w.alloc (.cells #[.int .u8 (x)] 5)) := (Bl.refl w).alloc _
  have hr : RdAt (w.alloc (.cells #[.int .u8 (x)] 5)) (fun k => k = w.heap.size) 1 (.slice (some ⟨w.heap.size, 0, none⟩) 1 1) 1 (bcells [x]) := rd_new w (bcells [x]) 5 1 1 rfl (by unfold maxLen; omega)
  have he : [x] = be1 x := by rfl
  have HM := Lib.hid (And.intro hm hfit)
  clear hm hfit
  go_enter Try.func76, Try.ntmps76
  go_wp2_with fail
  refine wp_loop_rounds 2 ?_
  repeat any_goals (rw [rounds_succ]; go_wp2_with fail)
  refine (put_any _ M b most xs (hw.bl hk) HM.out.1 _ _ [x] hr HM.out.2).mono ?_
  rintro e w2 ⟨rfl, hw2, hc2⟩
  go_wp2_with fail
  go_end0
  rw [he] at hw2
  exact ⟨rfl, hw2, (Chg.of_below hk).trans hc2⟩
theorem wU8_any (w : World) (M b : Nat) (most : Int) (xs : List Int) (hw : Wr w M b most xs) (hm : most ≤ 1073741824) (x : Int) (h0 : 0 ≤ x) (h1 : x ≤ 255) (hfit : (xs.length : Int) + 1 ≤ most) :
    Calls Try.prog 43 #[.pointer (some ⟨b, 0, none⟩), .int .u8 x] w fun e w' => e = .returned (.tuple #[]) ∧ Wr w' M b most (xs ++ be1 x) ∧ Chg (fun j => M ≤ j) w w' := by
  have HM := Lib.hid (And.intro hm hfit)
  clear hm hfit
  go_enter Try.func43, Try.ntmps43
  go_wp2_with fail
  refine (number1_any _ M b most xs hw HM.out.1 x h0 h1 HM.out.2).mono ?_
  rintro e w2 ⟨rfl, hw2, hc2⟩
  go_wp2_with fail
  go_end0
  exact ⟨rfl, hw2, hc2⟩
def be2 (x : Int) : List Int := [x / 256 % 256, x % 256]
set_option maxRecDepth 100000 in
set_option maxHeartbeats 1000000 in
theorem number2_any (w : World) (M b : Nat) (most : Int) (xs : List Int) (hw : Wr w M b most xs) (hm : most ≤ 1073741824) (x : Int) (h0 : 0 ≤ x) (h1 : x ≤ 65535) (hfit : (xs.length : Int) + 2 ≤ most) :
    Calls Try.prog 77 #[.pointer (some ⟨b, 0, none⟩), .int .u16 x, .int .i64 2] w fun e w' => e = .returned (.tuple #[]) ∧ Wr w' M b most (xs ++ be2 x) ∧ Chg (fun j => M ≤ j) w w' := by
  obtain ⟨i5, hi5, hz0, hz1, hz2⟩ := info_parts info5
  have hmk : ∀ u : World, (Instr.makeSlice 36 (.int .i64 2) (.int .i64 2)).run Try.prog u = .ok (.slice (some ⟨u.heap.size, 0, none⟩) 2 2) (u.alloc (.cells #[.int .u8 0, .int .u8 0] 5)) := fun u => by
    have h := run_make (P := Try.prog) u 36 5 i5 (.int .u8 0) Try.underlying36 hi5 hz0 .i64 .i64 2 2 (by omega) (Int.le_refl _) (by rw [hz2]; omega) (by omega)
    rw [hz1, Nat.mul_one] at h
    have e : madeCells (Value.int .u8 0).cells (Int.toNat 2) = #[.int .u8 0, .int .u8 0] := (madeCells_zeros 2).trans rfl
    rw [e] at h
    exact h
  have hk : Bl w (w.alloc (.cells #[.int .u8 (x / 16 / 16), .int .u8 (x % 256)] 5)) := (Bl.refl w).alloc _
  have hr : RdAt (w.alloc (.cells #[.int .u8 (x / 16 / 16), .int .u8 (x % 256)] 5)) (fun k => k = w.heap.size) 1 (.slice (some ⟨w.heap.size, 0, none⟩) 2 2) 2 (bcells [x / 16 / 16, x % 256]) := rd_new w (bcells [x / 16 / 16, x % 256]) 5 1 2 rfl (by unfold maxLen; omega)
  have he : [x / 16 / 16, x % 256] = be2 x := by simp only [be2, List.cons.injEq, and_true]; omega
  have HM := Lib.hid (And.intro hm hfit)
  clear hm hfit
  go_enter Try.func77, Try.ntmps77
  go_wp2_with fail
  refine wp_loop_rounds 3 ?_
  repeat any_goals (rw [rounds_succ]; go_wp2_with fail)
  refine (put_any _ M b most xs (hw.bl hk) HM.out.1 _ _ [x / 16 / 16, x % 256] hr HM.out.2).mono ?_
  rintro e w2 ⟨rfl, hw2, hc2⟩
  go_wp2_with fail
  go_end0
  rw [he] at hw2
  exact ⟨rfl, hw2, (Chg.of_below hk).trans hc2⟩
theorem wU16_any (w : World) (M b : Nat) (most : Int) (xs : List Int) (hw : Wr w M b most xs) (hm : most ≤ 1073741824) (x : Int) (h0 : 0 ≤ x) (h1 : x ≤ 65535) (hfit : (xs.length : Int) + 2 ≤ most) :
    Calls Try.prog 44 #[.pointer (some ⟨b, 0, none⟩), .int .u16 x] w fun e w' => e = .returned (.tuple #[]) ∧ Wr w' M b most (xs ++ be2 x) ∧ Chg (fun j => M ≤ j) w w' := by
  have HM := Lib.hid (And.intro hm hfit)
  clear hm hfit
  go_enter Try.func44, Try.ntmps44
  go_wp2_with fail
  refine (number2_any _ M b most xs hw HM.out.1 x h0 h1 HM.out.2).mono ?_
  rintro e w2 ⟨rfl, hw2, hc2⟩
  go_wp2_with fail
  go_end0
  exact ⟨rfl, hw2, hc2⟩
def be4 (x : Int) : List Int := [x / 16777216 % 256, x / 65536 % 256, x / 256 % 256, x % 256]
set_option maxRecDepth 100000 in
set_option maxHeartbeats 1000000 in
theorem number4_any (w : World) (M b : Nat) (most : Int) (xs : List Int) (hw : Wr w M b most xs) (hm : most ≤ 1073741824) (x : Int) (h0 : 0 ≤ x) (h1 : x ≤ 4294967295) (hfit : (xs.length : Int) + 4 ≤ most) :
    Calls Try.prog 78 #[.pointer (some ⟨b, 0, none⟩), .int .u32 x, .int .i64 4] w fun e w' => e = .returned (.tuple #[]) ∧ Wr w' M b most (xs ++ be4 x) ∧ Chg (fun j => M ≤ j) w w' := by
  obtain ⟨i5, hi5, hz0, hz1, hz2⟩ := info_parts info5
  have hmk : ∀ u : World, (Instr.makeSlice 36 (.int .i64 4) (.int .i64 4)).run Try.prog u = .ok (.slice (some ⟨u.heap.size, 0, none⟩) 4 4) (u.alloc (.cells #[.int .u8 0, .int .u8 0, .int .u8 0, .int .u8 0] 5)) := fun u => by
    have h := run_make (P := Try.prog) u 36 5 i5 (.int .u8 0) Try.underlying36 hi5 hz0 .i64 .i64 4 4 (by omega) (Int.le_refl _) (by rw [hz2]; omega) (by omega)
    rw [hz1, Nat.mul_one] at h
    have e : madeCells (Value.int .u8 0).cells (Int.toNat 4) = #[.int .u8 0, .int .u8 0, .int .u8 0, .int .u8 0] := (madeCells_zeros 4).trans rfl
    rw [e] at h
    exact h
  have hk : Bl w (w.alloc (.cells #[.int .u8 (x / 16 / 16 / 16 / 16 / 16 / 16), .int .u8 (x / 16 / 16 / 16 / 16 % 256), .int .u8 (x / 16 / 16 % 256), .int .u8 (x % 256)] 5)) := (Bl.refl w).alloc _
  have hr : RdAt (w.alloc (.cells #[.int .u8 (x / 16 / 16 / 16 / 16 / 16 / 16), .int .u8 (x / 16 / 16 / 16 / 16 % 256), .int .u8 (x / 16 / 16 % 256), .int .u8 (x % 256)] 5)) (fun k => k = w.heap.size) 1 (.slice (some ⟨w.heap.size, 0, none⟩) 4 4) 4 (bcells [x / 16 / 16 / 16 / 16 / 16 / 16, x / 16 / 16 / 16 / 16 % 256, x / 16 / 16 % 256, x % 256]) := rd_new w (bcells [x / 16 / 16 / 16 / 16 / 16 / 16, x / 16 / 16 / 16 / 16 % 256, x / 16 / 16 % 256, x % 256]) 5 1 4 rfl (by unfold maxLen; omega)
  have he : [x / 16 / 16 / 16 / 16 / 16 / 16, x / 16 / 16 / 16 / 16 % 256, x / 16 / 16 % 256, x % 256] = be4 x := by simp only [be4, List.cons.injEq, and_true]; omega
  have HM := Lib.hid (And.intro hm hfit)
  clear hm hfit
  go_enter Try.func78, Try.ntmps78
  go_wp2_with fail
  refine wp_loop_rounds 5 ?_
  repeat any_goals (rw [rounds_succ]; go_wp2_with fail)
  refine (put_any _ M b most xs (hw.bl hk) HM.out.1 _ _ [x / 16 / 16 / 16 / 16 / 16 / 16, x / 16 / 16 / 16 / 16 % 256, x / 16 / 16 % 256, x % 256] hr HM.out.2).mono ?_
  rintro e w2 ⟨rfl, hw2, hc2⟩
  go_wp2_with fail
  go_end0
  rw [he] at hw2
  exact ⟨rfl, hw2, (Chg.of_below hk).trans hc2⟩
theorem wU32_any (w : World) (M b : Nat) (most : Int) (xs : List Int) (hw : Wr w M b most xs) (hm : most ≤ 1073741824) (x : Int) (h0 : 0 ≤ x) (h1 : x ≤ 4294967295) (hfit : (xs.length : Int) + 4 ≤ most) :
    Calls Try.prog 45 #[.pointer (some ⟨b, 0, none⟩), .int .u32 x] w fun e w' => e = .returned (.tuple #[]) ∧ Wr w' M b most (xs ++ be4 x) ∧ Chg (fun j => M ≤ j) w w' := by
  have HM := Lib.hid (And.intro hm hfit)
  clear hm hfit
  go_enter Try.func45, Try.ntmps45
  go_wp2_with fail
  refine (number4_any _ M b most xs hw HM.out.1 x h0 h1 HM.out.2).mono ?_
  rintro e w2 ⟨rfl, hw2, hc2⟩
  go_wp2_with fail
  go_end0
  exact ⟨rfl, hw2, hc2⟩
end Go.Proofs.Ytjdkalimaldofaa
