/-
  A table that is full: what is plain of it: no Go here.
-/
import Derived.Test.YtbkblfhhhhkeaaaWalks
namespace Go.Proofs.Ytbkblfhhhhkeaaa
open Go.RowKit

theorem countTo_all (hs : List (Int × (Int × Int))) (i : Int) : countTo hs i hs.length = (hs.countP fun p => p.2.1 == i : Nat) := by simp [countTo]
theorem opensTo_count (l : List (Int × Int)) (i : Int) : ∀ k, k ≤ l.length → ((opensTo l k).countP fun p => p.2.1 == i) = ((l.take k).countP fun p => decide (0 < p.1) && p.1 == i)
  | 0, _ => by simp [opensTo]
  | k + 1, h => by
    have ih := opensTo_count l i k (by omega)
    have e := nth_get (l := l) (n := k) (by omega)
    rw [List.getElem?_eq_getElem (by omega)] at e
    injection e with e
    rw [List.take_succ_eq_append_getElem (by omega), e]
    simp only [opensTo, List.countP_append, ih, List.countP_singleton]
    by_cases h0 : 0 < (nth l k).1
    · rw [if_pos h0]; simp [h0]
    · simp [h0]
theorem countOf_eq (l : List (Int × Int)) (i : Int) (h : l.length = 64) : countOf l i = (l.countP fun p => decide (0 < p.1) && p.1 == i : Nat) := by
  unfold countOf opens
  rw [countTo_all, opensTo_count l i 64 (by omega), List.take_of_length_le (by omega)]

/-- the first k are open on an inode -/
def opened (i : Int) (k : Nat) : List (Int × Int) := (List.range k).map (fun (j : Nat) => (i, (j : Int))) ++ List.replicate (64 - k) (0, 0)
theorem opened_zero (i : Int) : opened i 0 = noTab := by simp [opened, noTab]
theorem opened_len (i : Int) (k : Nat) (h : k ≤ 64) : (opened i k).length = 64 := by simp [opened]; omega
theorem opened_lo (i : Int) (k j : Nat) (h : j < k) : nth (opened i k) j = (i, (j : Int)) := by
  simp [nth, opened, List.getElem?_append, h]
theorem opened_hi (i : Int) (k j : Nat) (h : k ≤ j) : nth (opened i k) j = (0, 0) := by
  simp only [nth, opened, List.getD_eq_getElem?_getD, List.getElem?_append, List.length_map, List.length_range, List.getElem?_replicate]
  rw [if_neg (by omega)]
  split <;> rfl
theorem opened_free (i : Int) (k : Nat) (hi : 1 ≤ i) (h : k < 64) : freeIx (opened i k) = k :=
  freeIx_some (by rw [opened_len i k (by omega)]; exact h) (by rw [opened_hi i k k (Nat.le_refl _)]) (fun j hj => by rw [opened_lo i k j hj]; show i ≠ 0; omega)
theorem opened_full (i : Int) (hi : 1 ≤ i) : freeIx (opened i 64) = -1 :=
  freeIx_none (fun j hj => by rw [opened_lo i 64 j (by simpa [opened_len] using hj)]; show i ≠ 0; omega)
theorem opened_set (i : Int) (k : Nat) (h : k < 64) : (opened i k).set k (i, (k : Int)) = opened i (k + 1) := by
  unfold opened
  rw [List.set_append_right _ _ (by simp), List.range_succ, List.map_append, List.append_assoc]
  congr 1
  rw [show 64 - k = (64 - (k + 1)) + 1 by omega, List.replicate_succ]
  simp
theorem opened_count (i : Int) (hi : 1 ≤ i) : countOf (opened i 64) i = 64 := by
  rw [countOf_eq _ _ (opened_len i 64 (by omega))]
  have : (opened i 64).countP (fun p => decide (0 < p.1) && p.1 == i) = (opened i 64).length := by
    rw [List.countP_eq_length]
    intro p hp
    simp [opened] at hp
    obtain ⟨j, _, rfl⟩ := hp
    simp; omega
  rw [this, opened_len i 64 (by omega)]
  rfl
theorem nth_set (l : List (Int × Int)) (n j : Nat) (x : Int × Int) (h : n < l.length) : nth (l.set n x) j = if n = j then x else nth l j := by
  simp only [nth, List.getD_eq_getElem?_getD, List.getElem?_set]
  split
  · simp
  · rfl
theorem opened_isOpen (i : Int) (hi : 1 ≤ i) (n : Nat) (h : n < 64) : isOpen (opened i 64) n = true := by
  simp [isOpen, opened_lo i 64 n h]; omega
theorem opened_last (i : Int) (hi : 1 ≤ i) (n : Nat) (h : n < 64) : (countOf ((opened i 64).set n (0, 0)) i == 0) = false := by
  rw [countOf_eq _ _ (by rw [List.length_set, opened_len i 64 (by omega)])]
  have hm : (if n = 0 then 1 else 0) < 64 := by split <;> omega
  have : 0 < ((opened i 64).set n (0, 0)).countP (fun p => decide (0 < p.1) && p.1 == i) := by
    rw [List.countP_pos_iff]
    refine ⟨nth ((opened i 64).set n (0, 0)) (if n = 0 then 1 else 0), ?_, ?_⟩
    · exact List.mem_of_getElem? (nth_get (by simp [opened_len]; exact hm))
    · rw [nth_set _ _ _ _ (by rw [opened_len i 64 (by omega)]; exact h), if_neg (by split <;> omega), opened_lo i 64 _ hm]
      simp; omega
  simp only [beq_eq_false_iff_ne]
  omega
theorem opened_again (i : Int) (hi : 1 ≤ i) (n : Nat) (h : n < 64) : freeIx ((opened i 64).set n (0, 0)) = n :=
  freeIx_some (by simp [opened_len]; exact h) (by rw [nth_set _ _ _ _ (by rw [opened_len i 64 (by omega)]; exact h)]; simp)
    (fun j hj => by rw [nth_set _ _ _ _ (by rw [opened_len i 64 (by omega)]; exact h), if_neg (by omega), opened_lo i 64 j (by omega)]; show i ≠ 0; omega)
end Go.Proofs.Ytbkblfhhhhkeaaa
