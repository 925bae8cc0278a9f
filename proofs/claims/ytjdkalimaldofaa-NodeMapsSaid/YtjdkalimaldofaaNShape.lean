/-
  A node's shape, the document's.
-/
import Derived.Test.YtjdkalimaldofaaNRise
namespace Go.Proofs.Ytjdkalimaldofaa
open Go.RowKit
set_option linter.unusedSimpArgs false
set_option linter.unusedVariables false

def kidOk (x : Int) : Bool := decide (0 ≤ x) && decide (x ≤ 4294967295)
/-- as many of each as there must be -/
def ND.form (n : ND) : Bool :=
  if n.leaf then decide (n.values.length = n.keys.length) && decide (n.kids.length = 0) else decide (n.kids.length = n.keys.length + 1) && decide (n.values.length = 0)
noncomputable def ND.shape (n : ND) : Bool := n.form && n.kids.all kidOk && ups n.keys
set_option maxHeartbeats 2000000 in
theorem shape_any (w : World) (own : Nat → Prop) (v : Value) (n : ND) (hv : NodeAt w own v n) (hs : n.Small) :
    Calls Try.prog 52 #[v] w fun e w' => e = .returned (.bool n.shape) ∧ Bl w w' := by
  have hv' := hv
  obtain ⟨ka, kc, va, vc, ia, ic, rfl, h⟩ := hv
  have kB : Bl w (w.alloc (.cells (nbox n ka kc va vc ia ic) 25)) := (Bl.refl w).alloc _
  have b1 : (w.alloc (.cells (nbox n ka kc va vc ia ic) 25)).heap[w.heap.size]? = some (.cells (nbox n ka kc va vc ia ic) 25 (0, 0)) := block_new _ _
  have hsz : w.heap.size < (w.alloc (.cells (nbox n ka kc va vc ia ic) 25)).heap.size := by simp
  have hA := h.below kB
  obtain ⟨_, _, _, hmax⟩ := RdAt.shape h.keys
  obtain ⟨_, _, _, hmax2⟩ := RdAt.shape h.kids
  unfold maxLen at hmax hmax2
  have hk30 := hs.keys
  unfold nodeV
  unfold nbox at kB b1 hsz hA
  go_enter Try.func52, Try.ntmps52
  cases hf : n.leaf with
  | false =>
    rw [hf] at kB b1 hsz hA
    by_cases h1 : n.kids.length = n.keys.length + 1
    · have q1 : (n.kids.length : Int) = (n.keys.length : Int) + 1 := by omega
      by_cases h2 : n.values.length = 0
      · have q2 : (n.values.length : Int) = 0 := by omega
        have HFo : Hid (n.form = true) := by show _ = _; simp [ND.form, hf, h1, h2]
        clear h1 h2
        go_wp2_with fail
        clear q1 q2
        generalize w.alloc (.cells #[.bool false, .slice ka n.keys.length kc, .slice va n.values.length vc, .slice ia n.kids.length ic] 25) = W2 at *
        go_loopw [3] (fun i wr => ∃ k : Nat, k ≤ n.kids.length ∧ i = .int .i64 k ∧ Bl W2 wr ∧ Hid (∀ j (_ : j < n.kids.length), j < k → kidOk n.kids[j] = true)) (fun i _ => n.kids.length - (intOf i).toNat)
        case atStart => exact ⟨0, by omega, rfl, Bl.refl _, fun j _ hj => by omega⟩
        case round =>
          obtain ⟨k, hk, rfl, hB, hpre⟩ := hrel
          have i0 : (0 : Int) ≤ (k : Int) := by omega
          have br := below_keeps hB b1 hsz
          have x1 : wr.cell? ⟨w.heap.size, 1, none⟩ = some (.slice ka n.keys.length kc) := (cell_of_block br 1).trans rfl
          have x3 : wr.cell? ⟨w.heap.size, 3, none⟩ = some (.slice ia n.kids.length ic) := (cell_of_block br 3).trans rfl
          have hr := hA.below hB
          by_cases hlt : k < n.kids.length
          · obtain ⟨g, off, rfl, _, _, hc⟩ := RdAt.get hr.kids (by omega)
            have c1 := hc k _ (icells_get hlt)
            have i1 : (k : Int) < (n.kids.length : Int) := by omega
            clear hc
            cases hok : kidOk n.kids[k] with
            | true =>
              have hb : 0 ≤ n.kids[k] ∧ n.kids[k] ≤ 4294967295 := by simpa [kidOk] using hok
              obtain ⟨q1, q2⟩ := hb
              have j1 : ¬ n.kids[k] < 0 := by omega
              have j2 : ¬ (4294967295 : Int) < n.kids[k] := by omega
              have hpre' : Hid (∀ j (_ : j < n.kids.length), j < k + 1 → kidOk n.kids[j] = true) := by
                intro j hj1 hj2
                by_cases e : j = k
                · subst e; exact hok
                · exact hpre.out j hj1 (by omega)
              clear hok
              go_wp2
              go_roundw
              case rel => exact ⟨k + 1, by omega, by go_num, hB, hpre'⟩
              case measure => simp [intOf]; omega
            | false =>
              have hb : n.kids[k] < 0 ∨ 4294967295 < n.kids[k] := by simp [kidOk] at hok; omega
              have hf : Hid (n.shape = false) := by
                have : n.kids.all kidOk = false := List.all_eq_false.2 ⟨_, List.getElem_mem hlt, by simp [hok]⟩
                show _ = _
                simp [ND.shape, this]
              clear hok
              rcases hb with hb | hb
              · have j1 : n.kids[k] < 0 := by omega
                go_wp2
                go_ret
                exact ⟨by rw [hf.out]; rfl, kB.trans hB⟩
              · have j1 : ¬ n.kids[k] < 0 := by omega
                have j2 : (4294967295 : Int) < n.kids[k] := by omega
                go_wp2
                go_ret
                exact ⟨by rw [hf.out]; rfl, kB.trans hB⟩
          · obtain rfl : k = n.kids.length := by omega
            have hall : n.kids.all kidOk = true := List.all_eq_true.2 (fun x hx => by
              obtain ⟨j, hj, rfl⟩ := List.mem_iff_getElem.1 hx
              exact hpre.out j hj hj)
            have HA := Lib.hid hall
            clear hall hpre hlt
            go_wp2_with fail
            clear x1 x3 br hr
            go_loopw [4] (fun i w2 => ∃ k : Nat, (k = 0 ∨ k < n.keys.length) ∧ i = .int .i64 ((k : Int) + 1) ∧ Bl W2 w2 ∧ Hid (Ups n.keys (k + 1))) (fun i _ => n.keys.length - (intOf i).toNat)
            case atStart => exact ⟨0, Or.inl rfl, rfl, hB, fun j h1 h2 => by omega⟩
            case round =>
              obtain ⟨k, hk, rfl, hbw, hu⟩ := hrel
              have br := below_keeps hbw b1 hsz
              have x1 : wr.cell? ⟨w.heap.size, 1, none⟩ = some (.slice ka n.keys.length kc) := (cell_of_block br 1).trans rfl
              have hr := hA.below hbw
              by_cases hlt : k + 1 < n.keys.length
              · obtain ⟨g, off, rfl, _, _, hc⟩ := RdAt.get hr.keys (by omega)
                have c1 := hc k _ (tcells_get (by omega))
                have c2 := hc (k + 1) _ (tcells_get hlt)
                have i0 : (0 : Int) ≤ (k : Int) := by omega
                have i1 : (k : Int) + 1 < (n.keys.length : Int) := by omega
                have i2 : (k : Int) < (n.keys.length : Int) := by omega
                have bs : w.heap.size < wr.heap.size := Nat.lt_of_lt_of_le hsz hbw.size
                clear hc hk
                cases hb : Op.bytesLess (n.keys[k]'(by omega)).toList n.keys[k + 1].toList with
                | true =>
                  have hu' : Hid (Ups n.keys (k + 1 + 1)) := fun j h1 h2 => by
                    by_cases e : j = k
                    · subst e; exact hb
                    · exact hu.out j h1 (by omega)
                  go_wp2
                  go_region
                  all_goals go_wp2
                  all_goals go_roundw
                  all_goals first | (case rel => exact ⟨k + 1, Or.inr (by omega), by go_num, hbw.drew, hu'⟩) | (case measure => simp [intOf]; omega)
                | false =>
                  have hf : n.shape = false := by simp [ND.shape, ups_no hlt hb]
                  have HF := Lib.hid hf
                  clear hf
                  go_wp2
                  go_region
                  all_goals go_wp2
                  all_goals go_ret
                  all_goals exact ⟨by rw [HF.out]; rfl, kB.trans hbw.drew⟩
              · have hall : n.shape = true := by
                  have : ups n.keys = true := ups_yes (fun j h1 h2 => hu.out j h1 (by omega))
                  simp [ND.shape, HA.out, this, HFo.out]
                have HZ := Lib.hid hall
                clear hall
                go_wp2
                go_ret
                exact ⟨by rw [HZ.out]; rfl, kB.trans hbw⟩
      · have q2 : ¬ (n.values.length : Int) = 0 := by omega
        have q3 : (((n.values.length : Int)) != 0) = true := by simpa [bne_iff_ne] using q2
        have hf : n.shape = false := by simp [ND.shape, ND.form, hf, h2]
        have HF := Lib.hid hf
        clear hf h1 h2
        go_wp2_with fail
        go_ret
        exact ⟨by rw [HF.out]; rfl, kB⟩
    · have q1 : ¬ (n.kids.length : Int) = (n.keys.length : Int) + 1 := by omega
      have hf : n.shape = false := by simp [ND.shape, ND.form, hf, h1]
      have HF := Lib.hid hf
      clear hf h1
      go_wp2_with fail
      go_ret
      exact ⟨by rw [HF.out]; rfl, kB⟩
  | true =>
    rw [hf] at kB b1 hsz hA
    by_cases h1 : n.values.length = n.keys.length
    · have q1 : (n.values.length : Int) = (n.keys.length : Int) := by omega
      by_cases h2 : n.kids.length = 0
      · have q2 : (n.kids.length : Int) = 0 := by omega
        have HFo : Hid (n.form = true) := by show _ = _; simp [ND.form, hf, h1, h2]
        clear h1 h2
        go_wp2_with fail
        clear q1 q2
        generalize w.alloc (.cells #[.bool true, .slice ka n.keys.length kc, .slice va n.values.length vc, .slice ia n.kids.length ic] 25) = W2 at *
        go_loopw [3] (fun i wr => ∃ k : Nat, k ≤ n.kids.length ∧ i = .int .i64 k ∧ Bl W2 wr ∧ Hid (∀ j (_ : j < n.kids.length), j < k → kidOk n.kids[j] = true)) (fun i _ => n.kids.length - (intOf i).toNat)
        case atStart => exact ⟨0, by omega, rfl, Bl.refl _, fun j _ hj => by omega⟩
        case round =>
          obtain ⟨k, hk, rfl, hB, hpre⟩ := hrel
          have i0 : (0 : Int) ≤ (k : Int) := by omega
          have br := below_keeps hB b1 hsz
          have x1 : wr.cell? ⟨w.heap.size, 1, none⟩ = some (.slice ka n.keys.length kc) := (cell_of_block br 1).trans rfl
          have x3 : wr.cell? ⟨w.heap.size, 3, none⟩ = some (.slice ia n.kids.length ic) := (cell_of_block br 3).trans rfl
          have hr := hA.below hB
          by_cases hlt : k < n.kids.length
          · obtain ⟨g, off, rfl, _, _, hc⟩ := RdAt.get hr.kids (by omega)
            have c1 := hc k _ (icells_get hlt)
            have i1 : (k : Int) < (n.kids.length : Int) := by omega
            clear hc
            cases hok : kidOk n.kids[k] with
            | true =>
              have hb : 0 ≤ n.kids[k] ∧ n.kids[k] ≤ 4294967295 := by simpa [kidOk] using hok
              obtain ⟨q1, q2⟩ := hb
              have j1 : ¬ n.kids[k] < 0 := by omega
              have j2 : ¬ (4294967295 : Int) < n.kids[k] := by omega
              have hpre' : Hid (∀ j (_ : j < n.kids.length), j < k + 1 → kidOk n.kids[j] = true) := by
                intro j hj1 hj2
                by_cases e : j = k
                · subst e; exact hok
                · exact hpre.out j hj1 (by omega)
              clear hok
              go_wp2
              go_roundw
              case rel => exact ⟨k + 1, by omega, by go_num, hB, hpre'⟩
              case measure => simp [intOf]; omega
            | false =>
              have hb : n.kids[k] < 0 ∨ 4294967295 < n.kids[k] := by simp [kidOk] at hok; omega
              have hf : Hid (n.shape = false) := by
                have : n.kids.all kidOk = false := List.all_eq_false.2 ⟨_, List.getElem_mem hlt, by simp [hok]⟩
                show _ = _
                simp [ND.shape, this]
              clear hok
              rcases hb with hb | hb
              · have j1 : n.kids[k] < 0 := by omega
                go_wp2
                go_ret
                exact ⟨by rw [hf.out]; rfl, kB.trans hB⟩
              · have j1 : ¬ n.kids[k] < 0 := by omega
                have j2 : (4294967295 : Int) < n.kids[k] := by omega
                go_wp2
                go_ret
                exact ⟨by rw [hf.out]; rfl, kB.trans hB⟩
          · obtain rfl : k = n.kids.length := by omega
            have hall : n.kids.all kidOk = true := List.all_eq_true.2 (fun x hx => by
              obtain ⟨j, hj, rfl⟩ := List.mem_iff_getElem.1 hx
              exact hpre.out j hj hj)
            have HA := Lib.hid hall
            clear hall hpre hlt
            go_wp2_with fail
            clear x1 x3 br hr
            go_loopw [4] (fun i w2 => ∃ k : Nat, (k = 0 ∨ k < n.keys.length) ∧ i = .int .i64 ((k : Int) + 1) ∧ Bl W2 w2 ∧ Hid (Ups n.keys (k + 1))) (fun i _ => n.keys.length - (intOf i).toNat)
            case atStart => exact ⟨0, Or.inl rfl, rfl, hB, fun j h1 h2 => by omega⟩
            case round =>
              obtain ⟨k, hk, rfl, hbw, hu⟩ := hrel
              have br := below_keeps hbw b1 hsz
              have x1 : wr.cell? ⟨w.heap.size, 1, none⟩ = some (.slice ka n.keys.length kc) := (cell_of_block br 1).trans rfl
              have hr := hA.below hbw
              by_cases hlt : k + 1 < n.keys.length
              · obtain ⟨g, off, rfl, _, _, hc⟩ := RdAt.get hr.keys (by omega)
                have c1 := hc k _ (tcells_get (by omega))
                have c2 := hc (k + 1) _ (tcells_get hlt)
                have i0 : (0 : Int) ≤ (k : Int) := by omega
                have i1 : (k : Int) + 1 < (n.keys.length : Int) := by omega
                have i2 : (k : Int) < (n.keys.length : Int) := by omega
                have bs : w.heap.size < wr.heap.size := Nat.lt_of_lt_of_le hsz hbw.size
                clear hc hk
                cases hb : Op.bytesLess (n.keys[k]'(by omega)).toList n.keys[k + 1].toList with
                | true =>
                  have hu' : Hid (Ups n.keys (k + 1 + 1)) := fun j h1 h2 => by
                    by_cases e : j = k
                    · subst e; exact hb
                    · exact hu.out j h1 (by omega)
                  go_wp2
                  go_region
                  all_goals go_wp2
                  all_goals go_roundw
                  all_goals first | (case rel => exact ⟨k + 1, Or.inr (by omega), by go_num, hbw.drew, hu'⟩) | (case measure => simp [intOf]; omega)
                | false =>
                  have hf : n.shape = false := by simp [ND.shape, ups_no hlt hb]
                  have HF := Lib.hid hf
                  clear hf
                  go_wp2
                  go_region
                  all_goals go_wp2
                  all_goals go_ret
                  all_goals exact ⟨by rw [HF.out]; rfl, kB.trans hbw.drew⟩
              · have hall : n.shape = true := by
                  have : ups n.keys = true := ups_yes (fun j h1 h2 => hu.out j h1 (by omega))
                  simp [ND.shape, HA.out, this, HFo.out]
                have HZ := Lib.hid hall
                clear hall
                go_wp2
                go_ret
                exact ⟨by rw [HZ.out]; rfl, kB.trans hbw⟩
      · have q2 : ¬ (n.kids.length : Int) = 0 := by omega
        have q3 : (((n.kids.length : Int)) != 0) = true := by simpa [bne_iff_ne] using q2
        have hf : n.shape = false := by simp [ND.shape, ND.form, hf, h2]
        have HF := Lib.hid hf
        clear hf h1 h2
        go_wp2_with fail
        go_ret
        exact ⟨by rw [HF.out]; rfl, kB⟩
    · have q1 : ¬ (n.values.length : Int) = (n.keys.length : Int) := by omega
      have hf : n.shape = false := by simp [ND.shape, ND.form, hf, h1]
      have HF := Lib.hid hf
      clear hf h1
      go_wp2_with fail
      go_ret
      exact ⟨by rw [HF.out]; rfl, kB⟩
end Go.Proofs.Ytjdkalimaldofaa
