/-
  The walk of HandleForks.
-/
import Derived.Test.YtbkblfhhhhkeaaaDoesLaw
namespace Go.Proofs.Ytbkblfhhhhkeaaa
open Go.RowKit
set_option linter.unusedSimpArgs false
set_option linter.unusedVariables false

theorem Pair.widen {w w' : World} {bad bad' : List Nat} {b r : Nat} {l : List (Int × Int)} (h : Pair w bad b r l) (k : Below w.heap.size w w') (hsub : ∀ i ∈ bad', i ∈ bad ∨ w.heap.size ≤ i) (hb : b ∈ bad') (hr : r ∈ bad') (low : ∀ i ∈ bad', i < w'.heap.size) : Pair w' bad' b r l := by
  obtain ⟨a, cap, hx⟩ := h.ref
  refine ⟨h.tab.below k h.tab.lt, h.ok, ⟨a, cap, below_keeps k hx.block hx.lt, ?_, hx.len⟩, hb, hr, h.ne, low⟩
  exact hx.rd.keep (fun i hi _ => k.block i hi) (fun i hi e e' => by rcases hsub i e' with q | q; exact e q; omega) k.size

set_option maxHeartbeats 600000 in
theorem forkslaw_any (W : World) (v : Value) (l : List OpH) (h : OpsAt W (fun k => k < W.heap.size) v l) (v' : Value) (m : List OpH) (h' : OpsAt W (fun k => k < W.heap.size) v' m) :
    Calls Try.prog 5 #[v, v'] W fun e w' => e = .returned (.bool true) ∧ Below W.heap.size W w' := by
  obtain ⟨a, cap, rfl, hmax⟩ := h.shape
  obtain ⟨a', cap', rfl, hmax'⟩ := h'.shape
  unfold maxLen at hmax hmax'
  obtain ⟨i0, hi, hz0, hz1, hz2⟩ := info_parts info50
  go_enter Try.func5, Try.ntmps5
  go_wp2_with fail
  refine (new_any _).mono ?_
  rintro e w1 ⟨rfl, t1, k1⟩
  go_wp2_with fail
  refine (awake_any _).mono ?_
  rintro e w2 ⟨rfl, k2⟩
  have t2 := t1.below k2 t1.lt
  have k12 := k1.trans (k2.mono k1.size)
  have hP := pair_start (w1 := w1) t2
  have hr0 : W.heap.size ≤ w2.heap.size := k12.size
  have kP := k12.alloc hr0 (.cells #[.slice none 0 0] 36)
  go_wp2_with fail
  generalize w2.alloc (.cells #[.slice none 0 0] 36) = w3 at *
  generalize w2.heap.size = r at *
  go_loopw [24] (fun i wr => ∃ (k : Nat) (t : List (Int × Int)), k ≤ l.length ∧ i = .int .i64 k ∧ Pair wr [W.heap.size, r] W.heap.size r t ∧ Below W.heap.size W wr) (fun i _ => l.length - (intOf i).toNat)
  case atStart => exact ⟨0, noTab, by omega, rfl, hP, kP⟩
  case round =>
    obtain ⟨k, t, hk, rfl, hp, hbw⟩ := hrel
    by_cases hlt : k < l.length
    · obtain ⟨g, off, rfl, hg, _, hcs⟩ := h.get (by omega)
      obtain ⟨d0, d1, d2, d3⟩ := (hcs k hlt).below hbw hg
      generalize l[k] = o at *
      have i0 : (0 : Int) ≤ (k : Int) := by omega
      have i1 : (k : Int) < (l.length : Int) := by omega
      have kB : Below wr.heap.size wr (wr.alloc (.cells #[.int .i64 o.kind, .int .i64 o.n, .int .i64 o.flags] 38)) := (Below.refl _ _).alloc (Nat.le_refl _) _
      have hst := Lib.hid (does_any _ _ _ _ _ o (hp.below kB) d3)
      unfold opv at hst
      clear hcs
      go_wp2_with fail
      refine hst.out.mono ?_
      rintro e w4 ⟨rfl, d4⟩
      have b4 := (d4.pre kB).bel hbw (Nat.le_refl _) hr0
      have p4 := d4.1
      clear d4 hst
      go_wp2_with fail
      go_roundw
      case rel => exact ⟨k + 1, _, by omega, by go_num, p4, b4⟩
      case measure => simp [intOf]; omega
    · obtain rfl : k = l.length := by omega
      have t64 := opens_len t
      go_wp2_with fail
      refine (hfork_any _ _ _ hp.tab).mono ?_
      rintro e w4 ⟨⟨u, rfl, hu, t4⟩, k4⟩
      have p4 := hp.below k4
      obtain ⟨ra, rcap, hr4⟩ := p4.ref
      have c0 := hr4.list
      have hr4l := hr4.lt
      have hu4 := t4.lt
      generalize hO : opens t = hs at *
      have HO := Lib.hid hO
      clear hO
      go_wp2_with (at_builtin; go_must (refine wpList_append_sl rfl (.tmp 38) (.tmp 42) 34 rfl 50 i0 (.agg #[.int .i64 0, .int .i64 0, .int .i64 0]) 3 24 Try.underlying34 hi hz0 hz1 hz2 rfl (fun _ => False) _ 0 [] rfl (SlAt.nil _ _ _ _ _) (Off [W.heap.size, r]) _ hs.length (hcells hs) rfl ?_ (hcells_one _) ?_ ?_ ?_); exact hr4.rd.below ((Below.refl _ _).alloc (Nat.le_refl _) _); (unfold maxLen; omega); omega; intro v5 w5 hs5 hc5; rw [Nat.zero_add, List.nil_append] at hs5; obtain ⟨a5, cap5, rfl⟩ := hs5.shape)
      have b5 : Below w4.heap.size w4 w5 := ((Below.refl _ _).alloc (Nat.le_refl _) _).trans (hc5.below (by simp) (fun _ _ e => e))
      have z5 : w4.heap.size + 1 ≤ w5.heap.size := by have := hc5.size; simpa using this
      have hw : Pair (w5.alloc (.cells #[.slice a5 hs.length cap5] 36)) [W.heap.size, r, u, w5.heap.size] W.heap.size r t :=
        hp.widen (k4.trans ((b5.alloc b5.size _).mono k4.size)) (fun i hi => by simp at hi ⊢; have := k4.size; omega) (by simp) (by simp) (fun i hi => by have := p4.low W.heap.size (by simp); have := p4.low r (by simp); simp at hi ⊢; omega)
      have hx : Pair (w5.alloc (.cells #[.slice a5 hs.length cap5] 36)) [W.heap.size, r, u, w5.heap.size] u w5.heap.size t := by
        have q1 := p4.low W.heap.size (by simp)
        have q2 := p4.low r (by simp)
        have offs : ∀ i, i < w5.heap.size → (False ∨ i = (w4.alloc (.cells #[] 50)).heap.size) → Off [W.heap.size, r, u, w5.heap.size] i := fun i hi5 e => by
          rcases e with e | e
          · exact e.elim
          · simp at e
            show i ∉ _
            simp
            omega
        refine ⟨(t4.below b5 hu4).alloc _, p4.ok, (by rw [HO.out]; refine ⟨a5, cap5, block_new _ _, ?_, t64⟩; exact (hs5.rd.mono offs).below ((Below.refl _ _).alloc (Nat.le_refl _) _)), by simp, by simp, by omega, hw.low⟩
      have kW : Below W.heap.size W (w5.alloc (.cells #[.slice a5 hs.length cap5] 36)) := (hbw.trans ((k4.trans (b5.mono k4.size)).mono hbw.size)).alloc (by have := hbw.size; have := k4.size; omega) _
      have u0 : W.heap.size ≤ u := by have := hbw.size; omega
      have s0 : W.heap.size ≤ w5.heap.size := by have := hbw.size; have := k4.size; omega
      have n1 : W.heap.size ≠ r := hp.ne
      have n2 : W.heap.size < wr.heap.size := hp.low _ (by simp)
      have n3 : r < wr.heap.size := hp.low _ (by simp)
      have n4 : u < w5.heap.size := by omega
      have NN : Hid (W.heap.size ≤ u ∧ W.heap.size ≤ w5.heap.size ∧ W.heap.size ≠ r ∧ W.heap.size < u ∧ r < u ∧ u < w5.heap.size ∧ W.heap.size ≤ r) := by show _ ∧ _; omega
      clear hp p4 hr4 c0 hs5 hc5 b5 z5 t4 u0 s0 n1 n2 n3 n4 hu hu4 hr4l k4 t64 HO hz0 hz1 hz2 hi
      go_wp2_with fail
      generalize w5.alloc (.cells #[.slice a5 hs.length cap5] 36) = w6 at *
      generalize w5.heap.size = s at *
      go_loopw [48] (fun i wr => ∃ (k : Nat) (t t' : List (Int × Int)), k ≤ m.length ∧ i = .int .i64 k ∧ Pair wr [W.heap.size, r, u, s] W.heap.size r t ∧ Pair wr [W.heap.size, r, u, s] u s t' ∧ Below W.heap.size W wr) (fun i _ => m.length - (intOf i).toNat)
      case atStart => exact ⟨0, t, t, by omega, rfl, hw, hx, kW⟩
      case round =>
        clear hw hx kW
        obtain ⟨k, t1, t2, hk, rfl, hp, hq, hbw⟩ := hrel
        by_cases hlt : k < m.length
        · obtain ⟨g, off, rfl, hg, _, hcs⟩ := h'.get (by omega)
          obtain ⟨d0, d1, d2, d3⟩ := (hcs k hlt).below hbw hg
          generalize m[k] = o at *
          have i0 : (0 : Int) ≤ (k : Int) := by omega
          have i1 : (k : Int) < (m.length : Int) := by omega
          have kB : Below wr.heap.size wr (wr.alloc (.cells #[.int .i64 o.kind, .int .i64 o.n, .int .i64 o.flags] 38)) := (Below.refl _ _).alloc (Nat.le_refl _) _
          clear hcs
          by_cases hev : k % 2 = 0
          · have hst := Lib.hid (does_any _ _ _ _ _ o (hp.below kB) d3)
            unfold opv at hst
            have hq' := hq.below kB
            go_wp2_with fail
            refine hst.out.mono ?_
            rintro e w7 ⟨rfl, d7⟩
            obtain ⟨u0, s0, n1, n2, n3, n4, r0⟩ := NN.out
            have b7 := (d7.pre kB).bel hbw (Nat.le_refl _) r0
            have q7 := hq'.other d7.2 (by simp) (by simp) (by omega) (by omega) (by omega) (by omega)
            have p7 := d7.1
            clear d7 hst hq' hq hp u0 s0 n1 n2 n3 n4 r0
            go_wp2_with fail
            go_roundw
            case rel => exact ⟨k + 1, _, _, by omega, by go_num, p7, q7, b7⟩
            case measure => simp [intOf]; omega
          · have hst := Lib.hid (does_any _ _ _ _ _ o (hq.below kB) d3)
            unfold opv at hst
            have hp' := hp.below kB
            go_wp2_with fail
            refine hst.out.mono ?_
            rintro e w7 ⟨rfl, d7⟩
            obtain ⟨u0, s0, n1, n2, n3, n4, r0⟩ := NN.out
            have b7 := (d7.pre kB).bel hbw u0 s0
            have q7 := hp'.other d7.2 (by simp) (by simp) (by omega) (by omega) (by omega) (by omega)
            have p7 := d7.1
            clear d7 hst hp' hq hp u0 s0 n1 n2 n3 n4 r0
            go_wp2_with fail
            go_roundw
            case rel => exact ⟨k + 1, _, _, by omega, by go_num, q7, p7, b7⟩
            case measure => simp [intOf]; omega
        · obtain rfl : k = m.length := by omega
          go_wp2_with fail
          refine (same_any _ _ _ _ _ hp).mono ?_
          rintro e w7 ⟨rfl, k7⟩
          have hq7 := hq.below k7
          go_wp2_with fail
          refine (same_any _ _ _ _ _ hq7).mono ?_
          rintro e w8 ⟨rfl, k8⟩
          go_wp2_with fail
          go_ret
          exact ⟨rfl, hbw.trans ((k7.trans (k8.mono k7.size)).mono hbw.size)⟩
end Go.Proofs.Ytbkblfhhhhkeaaa
