/-
  Keys that rise, the program's.
-/
import Derived.Test.YthmimbmlcihkaaaGreatNSize2
import Derived.WalkLawsBesides
namespace Go.Proofs.YthmimbmlcihkaaaGreat
open Go.RowKit
set_option linter.unusedSimpArgs false
set_option linter.unusedVariables false
set_option maxRecDepth 100000

/-- every text is less than the next one -/
def Ups (l : List ByteArray) (k : Nat) : Prop := ∀ j (_ : j + 1 < l.length), j + 1 < k → Op.bytesLess l[j].toList l[j + 1].toList = true
open Classical in
noncomputable def ups (l : List ByteArray) : Bool := decide (Ups l l.length)
theorem ups_yes {l : List ByteArray} (h : Ups l l.length) : ups l = true := by classical exact decide_eq_true h
theorem ups_no {l : List ByteArray} {k : Nat} (h1 : k + 1 < l.length) (h : Op.bytesLess l[k].toList l[k + 1].toList = false) : ups l = false := by
  classical
  exact decide_eq_false (fun u => by have := u k h1 h1; rw [h] at this; cases this)
set_option maxHeartbeats 1000000 in
theorem rises_any (w : World) (own : Nat → Prop) (v : Value) (l : List ByteArray) (hl : TxtAt w own v l) :
    Calls Tryz.prog 112 #[v] w fun e w' => e = .returned (.bool (ups l)) ∧ Bl w w' := by
  obtain ⟨a, cap, rfl, hmax⟩ := RdAt.shape hl
  unfold maxLen at hmax
  go_enter Tryz.func112, Tryz.ntmps112
  go_wp2_with fail
  go_loopw [3] (fun i wr => ∃ k : Nat, (k = 0 ∨ k < l.length) ∧ i = .int .i64 ((k : Int) + 1) ∧ Bl w wr ∧ Hid (Ups l (k + 1))) (fun i _ => l.length - (intOf i).toNat)
  case atStart => exact ⟨0, Or.inl rfl, rfl, Bl.refl _, fun j h1 h2 => by omega⟩
  case round =>
    obtain ⟨k, hk, rfl, hbw, hu⟩ := hrel
    by_cases hlt : k + 1 < l.length
    · obtain ⟨g, off, rfl, _, hg, hc⟩ := (RdAt.below hl hbw).get (by omega)
      have c1 := hc k _ (tcells_get (by omega))
      have c2 := hc (k + 1) _ (tcells_get hlt)
      have i0 : (0 : Int) ≤ (k : Int) := by omega
      have i1 : (k : Int) + 1 < (l.length : Int) := by omega
      have i2 : (k : Int) < (l.length : Int) := by omega
      clear hc hk
      cases hb : Op.bytesLess (l[k]'(by omega)).toList l[k + 1].toList with
      | true =>
        have hu' : Hid (Ups l (k + 1 + 1)) := fun j h1 h2 => by
          by_cases e : j = k
          · subst e; exact hb
          · exact hu.out j h1 (by omega)
        go_wp2
        go_region
        all_goals go_wp2
        all_goals go_roundw
        all_goals first | (case rel => exact ⟨k + 1, Or.inr (by omega), by go_num, hbw.drew, hu'⟩) | (case measure => simp [intOf]; omega)
      | false =>
        have hf := ups_no hlt hb
        have HF := Lib.hid hf
        clear hf
        go_wp2
        go_region
        all_goals go_wp2
        all_goals go_ret
        all_goals exact ⟨by rw [HF.out]; rfl, hbw.drew⟩
    · have hall : ups l = true := ups_yes (fun j h1 h2 => hu.out j h1 (by omega))
      have HA := Lib.hid hall
      clear hall
      go_wp2
      go_ret
      exact ⟨by rw [HA.out]; rfl, hbw⟩
end Go.Proofs.YthmimbmlcihkaaaGreat
