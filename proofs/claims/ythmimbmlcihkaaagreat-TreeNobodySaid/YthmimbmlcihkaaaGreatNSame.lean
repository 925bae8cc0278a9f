/-
  The program's check answers as the document's.
-/
import Derived.Test.YthmimbmlcihkaaaGreatNPCheck
namespace Go.Proofs.YthmimbmlcihkaaaGreat
theorem pcheck_check (n : ND) : n.pcheck false = n.check := by
  unfold ND.pcheck ND.check
  by_cases hl : n.lens = true
  · rw [if_pos hl, if_pos hl]
    have : (n.shaped false = true ∧ n.kids.all kidOk = true ∧ ups n.keys = true) ↔ (n.shape = true ∧ (n.leaf = true ∨ n.keys.length ≠ 0)) := by
      simp only [ND.shaped, ND.shape, Bool.and_eq_true, Bool.or_eq_true, decide_eq_true_eq, Bool.or_false]
      constructor
      · rintro ⟨⟨a, b⟩, c, d⟩
        exact ⟨⟨⟨a, c⟩, d⟩, b.imp id (fun h => by omega)⟩
      · rintro ⟨⟨⟨a, c⟩, d⟩, b⟩
        exact ⟨⟨a, b.imp id (fun h => by omega)⟩, c, d⟩
    by_cases h : n.shape = true ∧ (n.leaf = true ∨ n.keys.length ≠ 0)
    · rw [if_pos h, if_pos (this.2 h)]
    · rw [if_neg h, if_neg (fun x => h (this.1 x))]
  · rw [if_neg hl, if_neg hl]
theorem pentry_rentry {n : ND} (h : n.form = true) (i : Nat) (hi : i < n.keys.length) : n.pentry i = n.rentry i := by
  unfold ND.pentry ND.rentry
  cases hf : n.leaf with
  | true => rfl
  | false =>
    simp only [ND.form, hf, Bool.false_eq_true, if_false, Bool.and_eq_true, decide_eq_true_eq] at h
    have : i + 1 < n.kids.length := by omega
    simp [this]
theorem psumTo_sumTo {n : ND} (h : n.form = true) (k : Nat) (hk : k ≤ n.keys.length) : n.psumTo k = n.sumTo k := by
  induction k with
  | zero => rfl
  | succ k ih => show n.psumTo k + n.pentry k = n.sumTo k + n.rentry k; rw [ih (by omega), pentry_rentry h k (by omega)]
theorem psize_rsize {n : ND} (h : n.form = true) : n.psize = n.rsize := by
  unfold ND.psize ND.rsize
  rw [psumTo_sumTo h _ (Nat.le_refl _)]
  cases hf : n.leaf with
  | true => simp
  | false =>
    simp only [ND.form, hf, Bool.false_eq_true, if_false, Bool.and_eq_true, decide_eq_true_eq] at h
    have : 0 < n.kids.length := by omega
    simp [this]
end Go.Proofs.YthmimbmlcihkaaaGreat
