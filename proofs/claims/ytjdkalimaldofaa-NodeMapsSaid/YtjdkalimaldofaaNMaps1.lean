/-
  A leaf stays right behind a put and behind a remove: plain.
-/
import Derived.Test.YtjdkalimaldofaaNRemove
import Derived.Test.YtjdkalimaldofaaNFind3
namespace Go.Proofs.Ytjdkalimaldofaa
open Go.RowKit
set_option linter.unusedSimpArgs false
set_option linter.unusedVariables false
theorem ins_at (l : List ByteArray) (x : ByteArray) (i : Nat) (hi : i ≤ l.length) (j : Nat) (hj : j < (l.take i ++ x :: l.drop i).length) :
    (l.take i ++ x :: l.drop i)[j] = if j < i then atL l j else if j = i then x else atL l (j - 1) := by
  have hlen : (l.take i ++ x :: l.drop i).length = l.length + 1 := by simp; omega
  by_cases h1 : j < i
  · rw [if_pos h1, List.getElem_append_left (by simp; omega), List.getElem_take, atL_get (by omega)]
  · rw [if_neg h1]
    by_cases h2 : j = i
    · subst h2
      have h3 : j - (l.take j).length = 0 := by simp; omega
      rw [if_pos rfl, List.getElem_append_right (by simp; omega)]
      simp only [h3, List.getElem_cons_zero]
    · rw [if_neg h2, List.getElem_append_right (by simp; omega)]
      have h3 : j - (l.take i).length = (j - i - 1) + 1 := by simp; omega
      simp only [h3, List.getElem_cons_succ, List.getElem_drop]
      rw [atL_get (by omega)]
      congr 1
      omega
theorem del_at (l : List ByteArray) (i : Nat) (hi : i < l.length) (j : Nat) (hj : j < (l.take i ++ l.drop (i + 1)).length) :
    (l.take i ++ l.drop (i + 1))[j] = if j < i then atL l j else atL l (j + 1) := by
  have hlen : (l.take i ++ l.drop (i + 1)).length = l.length - 1 := by simp; omega
  by_cases h1 : j < i
  · rw [if_pos h1, List.getElem_append_left (by simp; omega), List.getElem_take, atL_get (by omega)]
  · rw [if_neg h1, List.getElem_append_right (by simp; omega)]
    have h3 : j - (l.take i).length = j - i := by simp; omega
    simp only [h3, List.getElem_drop]
    rw [atL_get (by omega)]
    congr 1
    omega
theorem ups_ins {l : List ByteArray} (h : ups l = true) (key : ByteArray) {r : Nat} (hr : First (fun k => !(lessB (atL l k) key)) l.length r) (hn : ¬ (r < l.length ∧ eqB (atL l r) key = true)) : ups (l.take r ++ key :: l.drop r) = true := by
  have hrl := hr.le
  have hlen : (l.take r ++ key :: l.drop r).length = l.length + 1 := by simp; omega
  refine ups_yes (fun j h1 _ => ?_)
  show lessB _ _ = true
  rw [ins_at l key r hrl j (by omega), ins_at l key r hrl (j + 1) (by omega)]
  by_cases a : j + 1 < r
  · rw [if_pos (by omega), if_pos a, atL_get (by omega), atL_get (by omega)]
    exact ups_get h j (by omega)
  · by_cases b : j + 1 = r
    · rw [if_pos (by omega), if_neg a, if_pos b]
      have := hr.no j (by omega)
      simpa using this
    · rw [if_neg (by omega), if_neg a, if_neg b]
      by_cases c : j = r
      · rw [if_pos c]
        subst c
        have h2 : j < l.length := by omega
        have h3 := hr.yes h2
        have h4 : eqB (atL l j) key = false := by
          cases hq : eqB (atL l j) key with
          | false => rfl
          | true => exact absurd ⟨h2, hq⟩ hn
        have h5 := bl_tri (atL l j).toList key.toList
        show Op.bytesLess key.toList (atL l (j + 1 - 1)).toList = true
        rw [Nat.add_sub_cancel, h5]
        simp only [lessB] at h3
        simp only [eqB] at h4
        rw [h4]
        simpa using h3
      · rw [if_neg c, Nat.add_sub_cancel, atL_get (by omega), atL_get (by omega)]
        have := ups_get h (j - 1) (by omega)
        have e : j - 1 + 1 = j := by omega
        simpa only [e] using this
theorem ups_del {l : List ByteArray} (h : ups l = true) {r : Nat} (hr : r < l.length) : ups (l.take r ++ l.drop (r + 1)) = true := by
  have hlen : (l.take r ++ l.drop (r + 1)).length = l.length - 1 := by simp; omega
  refine ups_yes (fun j h1 _ => ?_)
  show lessB _ _ = true
  rw [del_at l r hr j (by omega), del_at l r hr (j + 1) (by omega)]
  by_cases a : j + 1 < r
  · rw [if_pos (by omega), if_pos a, atL_get (by omega), atL_get (by omega)]
    exact ups_get h j (by omega)
  · rw [if_neg a]
    by_cases b : j < r
    · rw [if_pos b, atL_get (by omega), atL_get (by omega)]
      exact ups_lt h (by omega) (by omega)
    · rw [if_neg b, atL_get (by omega), atL_get (by omega)]
      exact ups_lt h (by omega) (by omega)
theorem leaf_check {n : ND} (hf : n.leaf = true) (hl : n.lens = true) (hv : n.values.length = n.keys.length) (hk : n.kids = []) (hu : ups n.keys = true) : n.check = 0 := by
  have hform : n.form = true := by
    unfold ND.form
    rw [if_pos hf]
    simp [hv, hk]
  have hsh : n.shape = true := by
    unfold ND.shape
    rw [hform, hu, hk]
    rfl
  unfold ND.check
  rw [if_pos hl, if_pos ⟨hsh, Or.inl hf⟩]
/-- a leaf that is right -/
structure ND.Right (n : ND) : Prop where
  leaf : n.leaf = true
  check : n.check = 0
theorem ND.Right.parts {n : ND} (h : n.Right) : n.lens = true ∧ n.values.length = n.keys.length ∧ n.kids = [] ∧ ups n.keys = true := by
  obtain ⟨hl, hsh, -⟩ := ND.check_zero h.check
  have hfm := ND.form_leaf (ND.shape_form hsh) h.leaf
  refine ⟨hl, hfm.1, List.length_eq_zero_iff.1 hfm.2, ?_⟩
  unfold ND.shape at hsh
  rw [Bool.and_eq_true, Bool.and_eq_true] at hsh
  exact hsh.2
theorem ND.Right.of {n : ND} (hf : n.leaf = true) (hl : n.lens = true) (hv : n.values.length = n.keys.length) (hk : n.kids = []) (hu : ups n.keys = true) : n.Right := ⟨hf, leaf_check hf hl hv hk hu⟩
theorem ND.Right.put {n : ND} (h : n.Right) {key value : ByteArray} {r : Nat} (hk : keyOk key = true) (hx : valOk value = true) (hr : n.at key r) : (n.put key value r).Right := by
  obtain ⟨hl, hv, hi, hu⟩ := h.parts
  have hl' := hl
  rw [ND.lens, Bool.and_eq_true] at hl'
  unfold ND.put
  by_cases hf : n.finds key r = true
  · rw [if_pos hf]
    refine ND.Right.of h.leaf ?_ (by simp [hv]) hi hu
    rw [ND.lens, Bool.and_eq_true]
    refine ⟨hl'.1, List.all_eq_true.2 (fun x hxm => ?_)⟩
    rcases List.mem_or_eq_of_mem_set hxm with q | q
    · exact List.all_eq_true.1 hl'.2 x q
    · rw [q]; exact hx
  · rw [if_neg hf]
    have hrl := hr.le
    refine ND.Right.of h.leaf ?_ (by simp; omega) hi (ups_ins hu key hr (fun c => hf ?_))
    · rw [ND.lens, Bool.and_eq_true]
      refine ⟨List.all_eq_true.2 (fun x hxm => ?_), List.all_eq_true.2 (fun x hxm => ?_)⟩
      · rcases List.mem_append.1 hxm with q | q
        · exact List.all_eq_true.1 hl'.1 x (List.mem_of_mem_take q)
        · rcases List.mem_cons.1 q with q | q
          · rw [q]; exact hk
          · exact List.all_eq_true.1 hl'.1 x (List.mem_of_mem_drop q)
      · rcases List.mem_append.1 hxm with q | q
        · exact List.all_eq_true.1 hl'.2 x (List.mem_of_mem_take q)
        · rcases List.mem_cons.1 q with q | q
          · rw [q]; exact hx
          · exact List.all_eq_true.1 hl'.2 x (List.mem_of_mem_drop q)
    · unfold ND.finds
      rw [Bool.and_eq_true, decide_eq_true_eq]
      exact c
theorem ND.Right.without {n : ND} (h : n.Right) {r : Nat} (hr : r < n.keys.length) : (n.without r).Right := by
  obtain ⟨hl, hv, hi, hu⟩ := h.parts
  have hl' := hl
  rw [ND.lens, Bool.and_eq_true] at hl'
  unfold ND.without
  refine ND.Right.of h.leaf ?_ (by simp; omega) hi (ups_del hu hr)
  rw [ND.lens, Bool.and_eq_true]
  refine ⟨List.all_eq_true.2 (fun x hxm => ?_), List.all_eq_true.2 (fun x hxm => ?_)⟩
  · rcases List.mem_append.1 hxm with q | q
    · exact List.all_eq_true.1 hl'.1 x (List.mem_of_mem_take q)
    · exact List.all_eq_true.1 hl'.1 x (List.mem_of_mem_drop q)
  · rcases List.mem_append.1 hxm with q | q
    · exact List.all_eq_true.1 hl'.2 x (List.mem_of_mem_take q)
    · exact List.all_eq_true.1 hl'.2 x (List.mem_of_mem_drop q)
end Go.Proofs.Ytjdkalimaldofaa
