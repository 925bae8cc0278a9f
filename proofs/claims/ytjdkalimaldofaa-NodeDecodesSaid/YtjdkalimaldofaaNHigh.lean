/-
  The document's high and power; sameBytes.
-/
import Derived.Test.YtjdkalimaldofaaNEnc
import Derived.Test.YtjdkalimaldofaaNRCrc
namespace Go.Proofs.Ytjdkalimaldofaa
open Go.RowKit
set_option linter.unusedSimpArgs false
set_option linter.unusedVariables false
set_option maxRecDepth 100000 in
set_option maxHeartbeats 1000000 in
theorem high2_any (w : World) (x : Int) (h0 : 0 ≤ x) (h1 : x ≤ 65535) :
    Calls Try.prog 49 #[.int .u64 x, .int .i64 2] w fun e w' => (∃ g, e = .returned (.slice (some ⟨g, 0, none⟩) 2 2) ∧ w.heap.size ≤ g ∧ RdAt w' (fun k => w.heap.size ≤ k) 1 (.slice (some ⟨g, 0, none⟩) 2 2) 2 (bcells (be2 x))) ∧ Bl w w' := by
  obtain ⟨i5, hi5, hz0, hz1, hz2⟩ := info_parts info5
  have hmk : ∀ u : World, (Instr.makeSlice 36 (.int .i64 2) (.int .i64 2)).run Try.prog u = .ok (.slice (some ⟨u.heap.size, 0, none⟩) 2 2) (u.alloc (.cells #[.int .u8 0, .int .u8 0] 5)) := fun u => by
    have h := run_make (P := Try.prog) u 36 5 i5 (.int .u8 0) Try.underlying36 hi5 hz0 .i64 .i64 2 2 (by omega) (Int.le_refl _) (by rw [hz2]; omega) (by omega)
    rw [hz1, Nat.mul_one] at h
    have e : madeCells (Value.int .u8 0).cells (Int.toNat 2) = #[.int .u8 0, .int .u8 0] := (madeCells_zeros 2).trans rfl
    rw [e] at h
    exact h
  have hr : RdAt (w.alloc (.cells #[.int .u8 (x / 256), .int .u8 (x % 256)] 5)) (fun k => k = w.heap.size) 1 (.slice (some ⟨w.heap.size, 0, none⟩) 2 2) 2 (bcells [x / 256, x % 256]) := rd_new w (bcells [x / 256, x % 256]) 5 1 2 rfl (by unfold maxLen; omega)
  have he : [x / 256, x % 256] = be2 x := by simp only [be2, List.cons.injEq, and_true]; omega
  rw [he] at hr
  have HR := Lib.hid hr
  clear hr he
  go_enter Try.func49, Try.ntmps49
  go_wp2_with fail
  refine wp_loop_rounds 3 ?_
  repeat any_goals (rw [rounds_succ]; go_wp2_with fail)
  go_ret
  exact ⟨⟨w.heap.size, rfl, Nat.le_refl _, HR.out.mono (fun j _ e => by omega)⟩, (Bl.refl w).alloc _⟩
set_option maxRecDepth 100000 in
set_option maxHeartbeats 1000000 in
theorem high4_any (w : World) (x : Int) (h0 : 0 ≤ x) (h1 : x ≤ 4294967295) :
    Calls Try.prog 49 #[.int .u64 x, .int .i64 4] w fun e w' => (∃ g, e = .returned (.slice (some ⟨g, 0, none⟩) 4 4) ∧ w.heap.size ≤ g ∧ RdAt w' (fun k => w.heap.size ≤ k) 1 (.slice (some ⟨g, 0, none⟩) 4 4) 4 (bcells (be4 x))) ∧ Bl w w' := by
  obtain ⟨i5, hi5, hz0, hz1, hz2⟩ := info_parts info5
  have hmk : ∀ u : World, (Instr.makeSlice 36 (.int .i64 4) (.int .i64 4)).run Try.prog u = .ok (.slice (some ⟨u.heap.size, 0, none⟩) 4 4) (u.alloc (.cells #[.int .u8 0, .int .u8 0, .int .u8 0, .int .u8 0] 5)) := fun u => by
    have h := run_make (P := Try.prog) u 36 5 i5 (.int .u8 0) Try.underlying36 hi5 hz0 .i64 .i64 4 4 (by omega) (Int.le_refl _) (by rw [hz2]; omega) (by omega)
    rw [hz1, Nat.mul_one] at h
    have e : madeCells (Value.int .u8 0).cells (Int.toNat 4) = #[.int .u8 0, .int .u8 0, .int .u8 0, .int .u8 0] := (madeCells_zeros 4).trans rfl
    rw [e] at h
    exact h
  have hr : RdAt (w.alloc (.cells #[.int .u8 (x / 256 / 256 / 256), .int .u8 (x / 256 / 256 % 256), .int .u8 (x / 256 % 256), .int .u8 (x % 256)] 5)) (fun k => k = w.heap.size) 1 (.slice (some ⟨w.heap.size, 0, none⟩) 4 4) 4 (bcells [x / 256 / 256 / 256, x / 256 / 256 % 256, x / 256 % 256, x % 256]) := rd_new w (bcells [x / 256 / 256 / 256, x / 256 / 256 % 256, x / 256 % 256, x % 256]) 5 1 4 rfl (by unfold maxLen; omega)
  have he : [x / 256 / 256 / 256, x / 256 / 256 % 256, x / 256 % 256, x % 256] = be4 x := by simp only [be4, List.cons.injEq, and_true]; omega
  rw [he] at hr
  have HR := Lib.hid hr
  clear hr he
  go_enter Try.func49, Try.ntmps49
  go_wp2_with fail
  refine wp_loop_rounds 5 ?_
  repeat any_goals (rw [rounds_succ]; go_wp2_with fail)
  go_ret
  exact ⟨⟨w.heap.size, rfl, Nat.le_refl _, HR.out.mono (fun j _ e => by omega)⟩, (Bl.refl w).alloc _⟩
set_option maxHeartbeats 1000000 in
theorem power_any (w : World) (n : Int) : Calls Try.prog 48 #[.int .i64 n] w fun e w' => e = .returned (.bool (sizeOk n)) ∧ w' = w := by
  by_cases h1 : n = 512
  · subst h1
    go_enter Try.func48, Try.ntmps48
    go_wp2_with fail
    go_ret
    exact ⟨rfl, rfl⟩
  · by_cases h2 : n = 1024
    · subst h2
      go_enter Try.func48, Try.ntmps48
      go_wp2_with fail
      go_ret
      exact ⟨rfl, rfl⟩
    · by_cases h3 : n = 2048
      · subst h3
        go_enter Try.func48, Try.ntmps48
        go_wp2_with fail
        go_ret
        exact ⟨rfl, rfl⟩
      · by_cases h4 : n = 4096
        · subst h4
          go_enter Try.func48, Try.ntmps48
          go_wp2_with fail
          go_ret
          exact ⟨rfl, rfl⟩
        · have e1 : (n == 512) = false := by simpa using h1
          have e2 : (n == 1024) = false := by simpa using h2
          have e3 : (n == 2048) = false := by simpa using h3
          have e4 : (n == 4096) = false := by simpa using h4
          have e : sizeOk n = false := by simp [sizeOk, h1, h2, h3, h4]
          rw [e]
          clear e
          go_enter Try.func48, Try.ntmps48
          go_wp2_with fail
          go_ret
          exact ⟨rfl, rfl⟩
set_option maxHeartbeats 1000000 in
theorem samebytes_any (w : World) (own own2 : Nat → Prop) (v u : Value) (n : Nat) (l : List Int) (hl : RdAt w own 1 v n (bcells l)) (hm : RdAt w own2 1 u n (bcells l)) :
    Calls Try.prog 18 #[v, u] w fun e w' => e = .returned (.bool true) ∧ Bl w w' := by
  have hln : l.length = n := by have := hl.1; simpa using this
  subst hln
  obtain ⟨a, cap, rfl, hmax⟩ := RdAt.shape hl
  obtain ⟨a2, cap2, rfl, hmax2⟩ := RdAt.shape hm
  unfold maxLen at hmax hmax2
  go_enter Try.func18, Try.ntmps18
  go_wp2_with fail
  go_loopw [5] (fun i wr => ∃ k : Nat, k ≤ l.length ∧ i = .int .i64 k ∧ Bl w wr) (fun i _ => l.length - (intOf i).toNat)
  case atStart => exact ⟨0, by omega, rfl, Bl.refl _⟩
  case round =>
    obtain ⟨k, hk, rfl, hbw⟩ := hrel
    by_cases hlt : k < l.length
    · obtain ⟨g, off, rfl, _, hg, hc⟩ := (RdAt.below hl hbw).get (by omega)
      obtain ⟨g2, off2, rfl, _, hg2, hc2⟩ := (RdAt.below hm hbw).get (by omega)
      have c1 := hc k _ (bcells_get hlt)
      have c2 := hc2 k _ (bcells_get hlt)
      have i0 : (0 : Int) ≤ (k : Int) := by omega
      have i1 : (k : Int) < (l.length : Int) := by omega
      clear hc hc2
      go_wp2
      go_region
      all_goals go_wp2
      all_goals go_roundw
      all_goals first | (case rel => exact ⟨k + 1, by omega, by go_num, hbw.drew⟩) | (case measure => simp [intOf]; omega)
    · obtain rfl : k = l.length := by omega
      go_wp2
      go_ret
      exact ⟨rfl, hbw⟩
/-- what Encode tells where it does not encode -/
noncomputable def encErr (n : ND) (size : Int) : Int := if n.check = 0 then (if sizeOk size = true then 2 else 1) else n.check
end Go.Proofs.Ytjdkalimaldofaa
