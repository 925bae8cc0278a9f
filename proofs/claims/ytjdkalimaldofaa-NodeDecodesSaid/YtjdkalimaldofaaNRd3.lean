/-
  node's read, plain: what it gathers, round for round.
-/
import Derived.Test.YtjdkalimaldofaaNRd2
namespace Go.Proofs.Ytjdkalimaldofaa
open Go.RowKit
set_option linter.unusedSimpArgs false
set_option linter.unusedVariables false
/-- a reader's state: what is left, its fault -/
structure RS where
  s : ByteArray
  e : Int
def RS.raw (r : RS) (k : Nat) : RS := ⟨rawS r.s r.e k, rawE r.s r.e k⟩
def RS.txt (r : RS) (k : Nat) : ByteArray := rawT r.s r.e k
def RS.num (r : RS) (k : Nat) : Int := rdNum r.s r.e k
theorem rawS_le (s : ByteArray) (e : Int) (k : Nat) : (rawS s e k).size ≤ s.size := by
  unfold rawS
  split
  · rw [ByteArray.size_extract]; omega
  · exact Nat.le_refl _
theorem RS.raw_le (r : RS) (k : Nat) : (r.raw k).s.size ≤ r.s.size := rawS_le _ _ _
theorem rawE_stays {s : ByteArray} {e : Int} {k : Nat} (h : e ≠ 0) : rawE s e k = e := if_neg h
/-- what read has gathered -/
structure RSt where
  keys : List ByteArray
  values : List ByteArray
  kids : List Int
  r : RS
/-- a leaf's round -/
def RSt.leafStep (t : RSt) : RSt :=
  let k := (t.r.num 1).toNat
  let r1 := t.r.raw 1
  let v := (r1.num 1).toNat
  let r2 := r1.raw 1
  ⟨t.keys ++ [r2.txt k], t.values ++ [(r2.raw k).txt v], t.kids, (r2.raw k).raw v⟩
/-- an inner node's round -/
def RSt.innerStep (t : RSt) : RSt :=
  let k := (t.r.num 1).toNat
  let r1 := t.r.raw 1
  ⟨t.keys ++ [r1.txt k], t.values, t.kids ++ [(r1.raw k).num 4], (r1.raw k).raw 4⟩
/-- so many rounds; a fault ends them -/
def RSt.run (step : RSt → RSt) : Nat → RSt → RSt
  | 0, t => t
  | k + 1, t => if (RSt.run step k t).r.e = 0 then step (RSt.run step k t) else RSt.run step k t
theorem RSt.run_stays {step : RSt → RSt} {t : RSt} {k : Nat} (h : (RSt.run step k t).r.e ≠ 0) : ∀ m, k ≤ m → RSt.run step m t = RSt.run step k t := by
  intro m hm
  obtain ⟨d, rfl⟩ := Nat.le.dest hm
  clear hm
  induction d with
  | zero => rfl
  | succ d ih =>
    rw [← Nat.add_assoc, RSt.run, if_neg (by rw [ih]; exact h), ih]
theorem RSt.run_step {step : RSt → RSt} {t : RSt} {k : Nat} (h : (RSt.run step k t).r.e = 0) : RSt.run step (k + 1) t = step (RSt.run step k t) := by rw [RSt.run, if_pos h]
theorem RSt.leaf_le (t : RSt) : t.leafStep.r.s.size ≤ t.r.s.size ∧ t.leafStep.keys.length = t.keys.length + 1 ∧ t.leafStep.values.length = t.values.length + 1 ∧ t.leafStep.kids = t.kids := by
  refine ⟨?_, by simp [RSt.leafStep], by simp [RSt.leafStep], rfl⟩
  exact Nat.le_trans (RS.raw_le _ _) (Nat.le_trans (RS.raw_le _ _) (Nat.le_trans (RS.raw_le _ _) (RS.raw_le _ _)))
theorem RSt.inner_le (t : RSt) : t.innerStep.r.s.size ≤ t.r.s.size ∧ t.innerStep.keys.length = t.keys.length + 1 ∧ t.innerStep.values = t.values ∧ t.innerStep.kids.length = t.kids.length + 1 := by
  refine ⟨?_, by simp [RSt.innerStep], rfl, by simp [RSt.innerStep]⟩
  exact Nat.le_trans (RS.raw_le _ _) (Nat.le_trans (RS.raw_le _ _) (RS.raw_le _ _))
theorem RSt.leaf_run (t : RSt) : ∀ k, (RSt.run RSt.leafStep k t).r.s.size ≤ t.r.s.size ∧ (RSt.run RSt.leafStep k t).keys.length ≤ t.keys.length + k ∧ (RSt.run RSt.leafStep k t).values.length ≤ t.values.length + k ∧ (RSt.run RSt.leafStep k t).kids = t.kids
  | 0 => ⟨Nat.le_refl _, Nat.le_refl _, Nat.le_refl _, rfl⟩
  | k + 1 => by
    have h := RSt.leaf_run t k
    by_cases he : (RSt.run RSt.leafStep k t).r.e = 0
    · rw [RSt.run_step he]
      have q := RSt.leaf_le (RSt.run RSt.leafStep k t)
      exact ⟨by omega, by omega, by omega, q.2.2.2.trans h.2.2.2⟩
    · rw [RSt.run, if_neg he]
      exact ⟨h.1, by omega, by omega, h.2.2.2⟩
theorem RSt.inner_run (t : RSt) : ∀ k, (RSt.run RSt.innerStep k t).r.s.size ≤ t.r.s.size ∧ (RSt.run RSt.innerStep k t).keys.length ≤ t.keys.length + k ∧ (RSt.run RSt.innerStep k t).values = t.values ∧ (RSt.run RSt.innerStep k t).kids.length ≤ t.kids.length + k
  | 0 => ⟨Nat.le_refl _, Nat.le_refl _, rfl, Nat.le_refl _⟩
  | k + 1 => by
    have h := RSt.inner_run t k
    by_cases he : (RSt.run RSt.innerStep k t).r.e = 0
    · rw [RSt.run_step he]
      have q := RSt.inner_le (RSt.run RSt.innerStep k t)
      exact ⟨by omega, by omega, q.2.2.1.trans h.2.2.1, by omega⟩
    · rw [RSt.run, if_neg he]
      exact ⟨h.1, by omega, h.2.2.1, by omega⟩
theorem RS.num_in1 (r : RS) : 0 ≤ r.num 1 ∧ r.num 1 ≤ 255 := by
  have h1 := rdNum_in r.s r.e 1
  have h2 : (256 : Int) ^ 1 = 256 := by decide
  unfold RS.num
  omega
theorem RS.num_in4 (r : RS) : 0 ≤ r.num 4 ∧ r.num 4 ≤ 4294967295 := by
  have h1 := rdNum_in r.s r.e 4
  have h2 : (256 : Int) ^ 4 = 4294967296 := by decide
  unfold RS.num
  omega
end Go.Proofs.Ytjdkalimaldofaa
