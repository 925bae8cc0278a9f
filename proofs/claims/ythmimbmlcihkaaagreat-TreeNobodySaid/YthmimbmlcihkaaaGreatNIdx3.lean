/-
  slices.IndexFunc with the other checks; slices.ContainsFunc.
-/
import Derived.Test.YthmimbmlcihkaaaGreatNIdx2
namespace Go.Proofs.YthmimbmlcihkaaaGreat
open Go.RowKit
set_option linter.unusedSimpArgs false
set_option linter.unusedVariables false
set_option maxRecDepth 100000

set_option maxHeartbeats 1000000 in
theorem index2_any (w : World) (own : Nat → Prop) (v : Value) (l : List ByteArray) (hl : TxtAt w own v l) (hk : ∀ k ∈ l, k.size ≤ 9223372036854775807) :
    Calls Tryz.prog 132 #[v, .func (.func 108) #[] #[]] w fun e w' => (∃ x : Int, e = .returned (.int .i64 x) ∧ (0 ≤ x ↔ l.all valOk = false)) ∧ Bl w w' := by
  obtain ⟨a, cap, rfl, hmax⟩ := RdAt.shape hl
  unfold maxLen at hmax
  have Hk := Lib.hid hk
  clear hk
  go_enter Tryz.func132, Tryz.ntmps132
  go_wp2_with fail
  go_loopw [5, 8] (fun _ i wr => ∃ k : Nat, k ≤ l.length ∧ i = .int .i64 k ∧ Bl w wr ∧ Hid (∀ j (_ : j < l.length), j < k → valOk l[j] = true)) (fun _ i _ => l.length - (intOf i).toNat)
  case atStart => exact ⟨0, by omega, rfl, Bl.refl _, fun j h1 h2 => by omega⟩
  case round =>
    obtain ⟨k, hk, rfl, hbw, hpre⟩ := hrel
    have i0 : (0 : Int) ≤ (k : Int) := by omega
    by_cases hlt : k < l.length
    · obtain ⟨g, off, rfl, _, hg, hc⟩ := (RdAt.below hl hbw).get (by omega)
      have c1 := hc k _ (tcells_get hlt)
      have i1 : (k : Int) < (l.length : Int) := by omega
      clear hc
      have hs := Hk.out _ (List.getElem_mem hlt)
      have HS := Lib.hid hs
      clear hs
      cases hok : valOk l[k] with
      | true =>
        have hpre' : Hid (∀ j (_ : j < l.length), j < k + 1 → valOk l[j] = true) := by
          intro j hj1 hj2
          by_cases e : j = k
          · subst e; exact hok
          · exact hpre.out j hj1 (by omega)
        go_wp2_with (go_at_call 108; refine (check2_any _ _ HS.out).mono ?_; rw [hok]; rintro e w3 ⟨rfl, rfl⟩)
        go_roundw
        case rel => exact ⟨k + 1, by omega, by go_num, hbw, hpre'⟩
        case measure => simp [intOf]; omega
      | false =>
        have hf : l.all valOk = false := List.all_eq_false.2 ⟨_, List.getElem_mem hlt, by simp [hok]⟩
        have HF := Lib.hid hf
        clear hf
        go_wp2_with (go_at_call 108; refine (check2_any _ _ HS.out).mono ?_; rw [hok]; rintro e w3 ⟨rfl, rfl⟩)
        go_ret
        exact ⟨⟨_, rfl, fun _ => HF.out, fun _ => by omega⟩, hbw⟩
    · obtain rfl : k = l.length := by omega
      have hall : l.all valOk = true := List.all_eq_true.2 (fun x hx => by
        obtain ⟨j, hj, rfl⟩ := List.mem_iff_getElem.1 hx
        exact hpre.out j hj hj)
      have HA := Lib.hid hall
      clear hall
      go_wp2_with fail
      go_ret
      exact ⟨⟨-1, rfl, fun h => by omega, fun h => by rw [HA.out] at h; cases h⟩, hbw⟩
set_option maxHeartbeats 1000000 in
theorem index3_any (w : World) (own : Nat → Prop) (v : Value) (l : List Int) (hl : IntsAt w own v l) :
    Calls Tryz.prog 64 #[v, .func (.func 109) #[] #[]] w fun e w' => (∃ x : Int, e = .returned (.int .i64 x) ∧ (0 ≤ x ↔ l.all kidOk = false)) ∧ Bl w w' := by
  obtain ⟨a, cap, rfl, hmax⟩ := RdAt.shape hl
  unfold maxLen at hmax
  go_enter Tryz.func64, Tryz.ntmps64
  go_wp2_with fail
  go_loopw [5, 8] (fun _ i wr => ∃ k : Nat, k ≤ l.length ∧ i = .int .i64 k ∧ Bl w wr ∧ Hid (∀ j (_ : j < l.length), j < k → kidOk l[j] = true)) (fun _ i _ => l.length - (intOf i).toNat)
  case atStart => exact ⟨0, by omega, rfl, Bl.refl _, fun j h1 h2 => by omega⟩
  case round =>
    obtain ⟨k, hk, rfl, hbw, hpre⟩ := hrel
    have i0 : (0 : Int) ≤ (k : Int) := by omega
    by_cases hlt : k < l.length
    · obtain ⟨g, off, rfl, _, hg, hc⟩ := (RdAt.below hl hbw).get (by omega)
      have c1 := hc k _ (icells_get hlt)
      have i1 : (k : Int) < (l.length : Int) := by omega
      clear hc
      cases hok : kidOk l[k] with
      | true =>
        have hpre' : Hid (∀ j (_ : j < l.length), j < k + 1 → kidOk l[j] = true) := by
          intro j hj1 hj2
          by_cases e : j = k
          · subst e; exact hok
          · exact hpre.out j hj1 (by omega)
        go_wp2_with (go_at_call 109; refine (check3_any _ _).mono ?_; rw [hok]; rintro e w3 ⟨rfl, rfl⟩)
        go_roundw
        case rel => exact ⟨k + 1, by omega, by go_num, hbw, hpre'⟩
        case measure => simp [intOf]; omega
      | false =>
        have hf : l.all kidOk = false := List.all_eq_false.2 ⟨_, List.getElem_mem hlt, by simp [hok]⟩
        have HF := Lib.hid hf
        clear hf
        go_wp2_with (go_at_call 109; refine (check3_any _ _).mono ?_; rw [hok]; rintro e w3 ⟨rfl, rfl⟩)
        go_ret
        exact ⟨⟨_, rfl, fun _ => HF.out, fun _ => by omega⟩, hbw⟩
    · obtain rfl : k = l.length := by omega
      have hall : l.all kidOk = true := List.all_eq_true.2 (fun x hx => by
        obtain ⟨j, hj, rfl⟩ := List.mem_iff_getElem.1 hx
        exact hpre.out j hj hj)
      have HA := Lib.hid hall
      clear hall
      go_wp2_with fail
      go_ret
      exact ⟨⟨-1, rfl, fun h => by omega, fun h => by rw [HA.out] at h; cases h⟩, hbw⟩
set_option maxHeartbeats 1000000 in
theorem contains1_any (w : World) (own : Nat → Prop) (v : Value) (l : List ByteArray) (hl : TxtAt w own v l) (hk : ∀ k ∈ l, k.size ≤ 9223372036854775807) :
    Calls Tryz.prog 110 #[v, .func (.func 107) #[] #[]] w fun e w' => e = .returned (.bool (!(l.all keyOk))) ∧ Bl w w' := by
  have hl' := hl
  obtain ⟨a, cap, rfl, hmax⟩ := RdAt.shape hl
  unfold maxLen at hmax
  cases ha : l.all keyOk with
  | true =>
    have HA := Lib.hid ha
    clear ha
    go_enter Tryz.func110, Tryz.ntmps110
    go_wp2_with (go_at_call 132; refine (index1_any _ own _ l hl' hk).mono ?_; rintro e w3 ⟨⟨x, rfl, hx⟩, k3⟩; (have j1 : ¬ (0 : Int) ≤ x := fun h => by rw [HA.out] at hx; exact Bool.noConfusion (hx.1 h)); clear hx)
    go_ret
    exact ⟨by simp [j1], k3⟩
  | false =>
    have HA := Lib.hid ha
    clear ha
    go_enter Tryz.func110, Tryz.ntmps110
    go_wp2_with (go_at_call 132; refine (index1_any _ own _ l hl' hk).mono ?_; rintro e w3 ⟨⟨x, rfl, hx⟩, k3⟩; (have j1 : (0 : Int) ≤ x := hx.2 HA.out); clear hx)
    go_ret
    exact ⟨by simp [j1], k3⟩
set_option maxHeartbeats 1000000 in
theorem contains2_any (w : World) (own : Nat → Prop) (v : Value) (l : List ByteArray) (hl : TxtAt w own v l) (hk : ∀ k ∈ l, k.size ≤ 9223372036854775807) :
    Calls Tryz.prog 110 #[v, .func (.func 108) #[] #[]] w fun e w' => e = .returned (.bool (!(l.all valOk))) ∧ Bl w w' := by
  have hl' := hl
  obtain ⟨a, cap, rfl, hmax⟩ := RdAt.shape hl
  unfold maxLen at hmax
  cases ha : l.all valOk with
  | true =>
    have HA := Lib.hid ha
    clear ha
    go_enter Tryz.func110, Tryz.ntmps110
    go_wp2_with (go_at_call 132; refine (index2_any _ own _ l hl' hk).mono ?_; rintro e w3 ⟨⟨x, rfl, hx⟩, k3⟩; (have j1 : ¬ (0 : Int) ≤ x := fun h => by rw [HA.out] at hx; exact Bool.noConfusion (hx.1 h)); clear hx)
    go_ret
    exact ⟨by simp [j1], k3⟩
  | false =>
    have HA := Lib.hid ha
    clear ha
    go_enter Tryz.func110, Tryz.ntmps110
    go_wp2_with (go_at_call 132; refine (index2_any _ own _ l hl' hk).mono ?_; rintro e w3 ⟨⟨x, rfl, hx⟩, k3⟩; (have j1 : (0 : Int) ≤ x := hx.2 HA.out); clear hx)
    go_ret
    exact ⟨by simp [j1], k3⟩
set_option maxHeartbeats 1000000 in
theorem contains3_any (w : World) (own : Nat → Prop) (v : Value) (l : List Int) (hl : IntsAt w own v l) :
    Calls Tryz.prog 34 #[v, .func (.func 109) #[] #[]] w fun e w' => e = .returned (.bool (!(l.all kidOk))) ∧ Bl w w' := by
  have hl' := hl
  obtain ⟨a, cap, rfl, hmax⟩ := RdAt.shape hl
  unfold maxLen at hmax
  cases ha : l.all kidOk with
  | true =>
    have HA := Lib.hid ha
    clear ha
    go_enter Tryz.func34, Tryz.ntmps34
    go_wp2_with (go_at_call 64; refine (index3_any _ own _ l hl').mono ?_; rintro e w3 ⟨⟨x, rfl, hx⟩, k3⟩; (have j1 : ¬ (0 : Int) ≤ x := fun h => by rw [HA.out] at hx; exact Bool.noConfusion (hx.1 h)); clear hx)
    go_ret
    exact ⟨by simp [j1], k3⟩
  | false =>
    have HA := Lib.hid ha
    clear ha
    go_enter Tryz.func34, Tryz.ntmps34
    go_wp2_with (go_at_call 64; refine (index3_any _ own _ l hl').mono ?_; rintro e w3 ⟨⟨x, rfl, hx⟩, k3⟩; (have j1 : (0 : Int) ≤ x := hx.2 HA.out); clear hx)
    go_ret
    exact ⟨by simp [j1], k3⟩
end Go.Proofs.YthmimbmlcihkaaaGreat
