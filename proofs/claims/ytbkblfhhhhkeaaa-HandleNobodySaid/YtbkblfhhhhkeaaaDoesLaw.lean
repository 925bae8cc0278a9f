/-
  The walk of HandleDoes.
-/
import Derived.Test.YtbkblfhhhhkeaaaSameH
namespace Go.Proofs.Ytbkblfhhhhkeaaa
open Go.RowKit
set_option linter.unusedSimpArgs false
set_option linter.unusedVariables false

theorem opens_none : opens noTab = [] := by decide +kernel
theorem pair_start {w1 w2 : World} {b : Nat} (t : TabAt w2 b noTab) : Pair (w2.alloc (.cells #[.slice none 0 0] 36)) [b, w2.heap.size] b w2.heap.size noTab := by
  have hlt := t.lt
  refine ⟨t.alloc _, noTab_ok, ?_, by simp, by simp, by omega, fun k hk => ?_⟩
  · rw [opens_none]
    exact ⟨none, 0, block_new _ _, (SlAt.nil _ _ 50 _ _).rd, by simp⟩
  · simp at hk
    simp
    omega
theorem ODid.bel {W w w' : World} {bad : List Nat} {b r : Nat} {l : List (Int × Int)} (d : ODid bad b r l w w') (h : Below W.heap.size W w) (hb : W.heap.size ≤ b) (hr : W.heap.size ≤ r) : Below W.heap.size W w' :=
  h.trans (d.2.below h.size (fun i hi e => by omega))

set_option maxHeartbeats 2000000 in
theorem doeslaw_any (W : World) (v : Value) (l : List OpH) (h : OpsAt W (fun k => k < W.heap.size) v l) :
    Calls Try.prog 4 #[v] W fun e w' => e = .returned (.bool true) ∧ Below W.heap.size W w' := by
  obtain ⟨a, cap, rfl, hmax⟩ := h.shape
  unfold maxLen at hmax
  go_enter Try.func4, Try.ntmps4
  go_wp2_with fail
  refine (new_any _).mono ?_
  rintro e w1 ⟨rfl, t1, k1⟩
  go_wp2_with fail
  refine (awake_any _).mono ?_
  rintro e w2 ⟨rfl, k2⟩
  have t2 := t1.below k2 t1.lt
  have k12 := k1.trans (k2.mono k1.size)
  have hP := pair_start (w1 := w1) t2
  have hr0 : W.heap.size ≤ w2.heap.size := k12.size
  have kP := k12.alloc hr0 (.cells #[.slice none 0 0] 36)
  go_wp2_with fail
  generalize w2.alloc (.cells #[.slice none 0 0] 36) = w3 at *
  generalize w2.heap.size = r at *
  go_loopw [18] (fun i wr => ∃ (k : Nat) (t : List (Int × Int)), k ≤ l.length ∧ i = .int .i64 k ∧ Pair wr [W.heap.size, r] W.heap.size r t ∧ Below W.heap.size W wr) (fun i _ => l.length - (intOf i).toNat)
  case atStart => exact ⟨0, noTab, by omega, rfl, hP, kP⟩
  case round =>
    obtain ⟨k, t, hk, rfl, hp, hbw⟩ := hrel
    by_cases hlt : k < l.length
    · obtain ⟨g, off, rfl, hg, _, hcs⟩ := h.get (by omega)
      obtain ⟨d0, d1, d2, d3⟩ := (hcs k hlt).below hbw hg
      generalize l[k] = o at *
      have i0 : (0 : Int) ≤ (k : Int) := by omega
      have i1 : (k : Int) < (l.length : Int) := by omega
      have kB : Below wr.heap.size wr (wr.alloc (.cells #[.int .i64 o.kind, .int .i64 o.n, .int .i64 o.flags] 38)) := (Below.refl _ _).alloc (Nat.le_refl _) _
      have hst := Lib.hid (does_any _ _ _ _ _ o (hp.below kB) d3)
      unfold opv at hst
      clear hcs
      go_wp2_with fail
      refine hst.out.mono ?_
      rintro e w4 ⟨rfl, d4⟩
      have b4 := (d4.pre kB).bel hbw (Nat.le_refl _) hr0
      have p4 := d4.1
      clear d4 hst
      go_wp2_with fail
      go_roundw
      case rel => exact ⟨k + 1, _, by omega, by go_num, p4, b4⟩
      case measure => simp [intOf]; omega
    · obtain rfl : k = l.length := by omega
      go_wp2_with fail
      refine (same_any _ _ _ _ _ hp).mono ?_
      rintro e w4 ⟨rfl, k4⟩
      go_wp2_with fail
      go_ret
      exact ⟨rfl, hbw.trans (k4.mono hbw.size)⟩
end Go.Proofs.Ytbkblfhhhhkeaaa
