/-
  slices.Equal at bytes.
-/
import Derived.Test.YtjdkalimaldofaaNHigh
namespace Go.Proofs.Ytjdkalimaldofaa
open Go.RowKit
set_option linter.unusedSimpArgs false
set_option linter.unusedVariables false
theorem eq_of_take {l m : List Int} (he : l.length = m.length) (h : l.take l.length = m.take l.length) : l = m := by
  rw [List.take_length, he, List.take_length] at h
  exact h
theorem take_step {l m : List Int} {k : Nat} (h : l.take k = m.take k) (h1 : k < l.length) (h2 : k < m.length) (e : l[k] = m[k]) : l.take (k + 1) = m.take (k + 1) := by
  rw [List.take_succ_eq_append_getElem h1, List.take_succ_eq_append_getElem h2, h, e]
set_option maxHeartbeats 1000000 in
theorem equal_any (w : World) (own own2 : Nat → Prop) (v u : Value) (n n2 : Nat) (l m : List Int) (hl : RdAt w own 1 v n (bcells l)) (hm : RdAt w own2 1 u n2 (bcells m)) :
    Calls Try.prog 59 #[v, u] w fun e w' => e = .returned (.bool (decide (l = m))) ∧ Bl w w' := by
  have hln : l.length = n := by have := hl.1; simpa using this
  have hlm : m.length = n2 := by have := hm.1; simpa using this
  subst hln
  subst hlm
  obtain ⟨a, cap, rfl, hmax⟩ := RdAt.shape hl
  obtain ⟨a2, cap2, rfl, hmax2⟩ := RdAt.shape hm
  unfold maxLen at hmax hmax2
  by_cases he : l.length = m.length
  · have heb : ((l.length : Int) != (m.length : Int)) = false := by simp [he]
    obtain ⟨r, hr⟩ : ∃ r, r = decide (l = m) := ⟨_, rfl⟩
    rw [← hr]
    have HR := Lib.hid hr
    have HE := Lib.hid he
    clear hr he
    go_enter Try.func59, Try.ntmps59
    go_wp2_with fail
    clear heb
    go_loopw [5, 13] (fun _ i wr => ∃ k : Nat, k ≤ l.length ∧ i = .int .i64 k ∧ l.take k = m.take k ∧ Bl w wr) (fun _ i _ => l.length - (intOf i).toNat)
    case atStart => exact ⟨0, by omega, rfl, by simp, Bl.refl _⟩
    case round =>
      obtain ⟨k, hk, rfl, htk, hbw⟩ := hrel
      by_cases hlt : k < l.length
      · have hlt2 : k < m.length := by have := HE.out; omega
        obtain ⟨g, off, rfl, _, hg, hc⟩ := (RdAt.below hl hbw).get (by omega)
        obtain ⟨g2, off2, rfl, _, hg2, hc2⟩ := (RdAt.below hm hbw).get (by omega)
        have c1 := hc k _ (bcells_get hlt)
        have c2 := hc2 k _ (bcells_get hlt2)
        have i0 : (0 : Int) ≤ (k : Int) := by omega
        have i1 : (k : Int) < (l.length : Int) := by omega
        have i2 : (k : Int) < (m.length : Int) := by omega
        clear hc hc2
        by_cases hv : l[k] = m[k]
        · have hvb : (l[k] != m[k]) = false := by simp [hv]
          have hts := take_step htk hlt hlt2 hv
          clear hv
          go_wp2
          go_region
          all_goals go_wp2
          all_goals go_roundw
          all_goals first | (case rel => exact ⟨k + 1, by omega, by go_num, hts, hbw.drew⟩) | (case measure => simp [intOf]; omega)
        · have hvb : (l[k] != m[k]) = true := by simpa using hv
          have hrf : r = false := by rw [HR.out]; exact decide_eq_false (fun c => hv (by subst c; rfl))
          subst hrf
          go_wp2
          go_region
          all_goals go_wp2
          all_goals go_ret
          all_goals exact ⟨rfl, hbw.drew⟩
      · obtain rfl : k = l.length := by omega
        have hrf : r = true := by rw [HR.out]; exact decide_eq_true (eq_of_take HE.out htk)
        subst hrf
        go_wp2
        go_ret
        exact ⟨rfl, hbw⟩
  · have heb : ((l.length : Int) != (m.length : Int)) = true := by
      simp only [bne_iff_ne, ne_eq, Int.ofNat_inj]
      exact he
    rw [decide_eq_false (fun c => he (by rw [c]))]
    go_enter Try.func59, Try.ntmps59
    go_wp2_with fail
    go_ret
    exact ⟨rfl, Bl.refl _⟩
end Go.Proofs.Ytjdkalimaldofaa
