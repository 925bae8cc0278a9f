/-
  The halves of a node, plain: they may be, Join of them is the node, their sizes.
-/
import Derived.Test.YtjdkalimaldofaaNHalves
import Derived.Test.YtjdkalimaldofaaNFind
import Derived.Test.YtjdkalimaldofaaNJoin
namespace Go.Proofs.Ytjdkalimaldofaa
open Go.RowKit
set_option linter.unusedSimpArgs false
set_option linter.unusedVariables false
theorem ND.SplitIs.uniq {n a b a' b' : ND} {k k' : ByteArray} {e e' : Int} (h : n.SplitIs a k b e) (h' : n.SplitIs a' k' b' e') : a' = a ∧ k' = k ∧ b' = b ∧ e' = e := by
  cases h with
  | bad hc =>
    cases h' with
    | bad _ => exact ⟨rfl, rfl, rfl, rfl⟩
    | few hc' _ => exact absurd hc' hc
    | ok hc' => exact absurd hc' hc
  | few hc hl =>
    cases h' with
    | bad hc' => exact absurd hc hc'
    | few _ _ => exact ⟨rfl, rfl, rfl, rfl⟩
    | ok _ i hi _ => have := hi.pos; have := hi.le; omega
  | ok hc i hi hlt =>
    cases h' with
    | bad hc' => exact absurd hc hc'
    | few _ hl => have := hi.pos; have := hi.le; omega
    | ok _ j hj _ => obtain rfl := hi.uniq hj; exact ⟨rfl, rfl, rfl, rfl⟩
theorem ups_take {l : List ByteArray} (h : ups l = true) (k : Nat) : ups (l.take k) = true := ups_yes (fun j h1 h2 => by
  have hl : j + 1 < l.length := by rw [List.length_take] at h1; omega
  have := ups_get h j hl
  rw [List.getElem_take, List.getElem_take]
  exact this)
theorem ups_drop {l : List ByteArray} (h : ups l = true) (k : Nat) : ups (l.drop k) = true := ups_yes (fun j h1 h2 => by
  have hl : k + j + 1 < l.length := by rw [List.length_drop] at h1; omega
  have := ups_get h (k + j) hl
  rw [List.getElem_drop, List.getElem_drop]
  exact this)
theorem pcheck_zero {n : ND} (h1 : n.lens = true) (h2 : n.form = true) (h3 : n.kids.all kidOk = true) (h4 : ups n.keys = true) : n.pcheck true = 0 := by
  unfold ND.pcheck
  rw [if_pos h1, if_pos]
  exact ⟨by simp [ND.shaped, h2], h3, h4⟩
theorem all_take {α : Type} {l : List α} {p : α → Bool} (h : l.all p = true) (k : Nat) : (l.take k).all p = true := by
  rw [List.all_eq_true] at *
  exact fun x hx => h x (List.mem_of_mem_take hx)
theorem all_drop {α : Type} {l : List α} {p : α → Bool} (h : l.all p = true) (k : Nat) : (l.drop k).all p = true := by
  rw [List.all_eq_true] at *
  exact fun x hx => h x (List.mem_of_mem_drop hx)
/-- what a node that may be split, and its place, is known of -/
structure ND.Cut (n : ND) (h : Nat) : Prop where
  check : n.check = 0
  half : n.Half n.last h
  lt : h < n.keys.length
  room : n.leaf = false → h + 1 < n.keys.length
theorem ND.Cut.of {n : ND} {h : Nat} (hc : n.check = 0) (hh : n.Half n.last h) (hl : h < n.keys.length) : n.Cut h :=
  ⟨hc, hh, hl, fun hf => by have h1 := hh.le; have h2 := hh.pos; rw [ND.last, if_neg (by rw [hf]; decide)] at h1; omega⟩
theorem ND.Cut.left_leaf {n : ND} {h : Nat} (c : n.Cut h) : (n.left h).leaf = n.leaf := by unfold ND.left; cases n.leaf <;> rfl
theorem ND.Cut.right_leaf {n : ND} {h : Nat} (c : n.Cut h) : (n.right h).leaf = n.leaf := by unfold ND.right; cases n.leaf <;> rfl
theorem ND.Cut.right_keys {n : ND} {h : Nat} (c : n.Cut h) : (n.right h).keys.length = n.keys.length - (if n.leaf then h else h + 1) := by
  unfold ND.right; cases n.leaf <;> simp
theorem ND.Cut.left_small {n : ND} {h : Nat} (c : n.Cut h) (s : n.Small) : (n.left h).Small := by
  obtain ⟨a, b, d⟩ := s
  unfold ND.left
  cases n.leaf
  · exact ⟨by simp; omega, by simp, by simp; omega⟩
  · exact ⟨by simp; omega, by simp; omega, by simp⟩
theorem ND.Cut.right_small {n : ND} {h : Nat} (c : n.Cut h) (s : n.Small) : (n.right h).Small := by
  obtain ⟨a, b, d⟩ := s
  unfold ND.right
  cases n.leaf
  · exact ⟨by simp; omega, by simp, by simp; omega⟩
  · exact ⟨by simp; omega, by simp; omega, by simp⟩
theorem sz_take (l : List ByteArray) {k i : Nat} (hi : i < k) : sz (l.take k) i = sz l i := by simp [sz, List.getElem?_take, hi]
theorem sz_drop (l : List ByteArray) (k i : Nat) : sz (l.drop k) i = sz l (k + i) := by simp [sz, List.getElem?_drop]
theorem ND.psumTo_mono (n : ND) {j k : Nat} (h : j ≤ k) : n.psumTo j ≤ n.psumTo k := by
  induction h with
  | refl => exact Int.le_refl _
  | step h ih => rename_i m; have := n.pentry_pos m; show n.psumTo j ≤ n.psumTo m + n.pentry m; omega
section
variable {n : ND} {h : Nat} (c : n.Cut h)
include c
theorem ND.Cut.keysOk : n.keys.all keyOk = true := by have := (ND.check_zero c.check).1; simp only [ND.lens, Bool.and_eq_true] at this; exact this.1
theorem ND.Cut.valsOk : n.values.all valOk = true := by have := (ND.check_zero c.check).1; simp only [ND.lens, Bool.and_eq_true] at this; exact this.2
theorem ND.Cut.kidsOk : n.kids.all kidOk = true := by have := (ND.check_zero c.check).2.1; simp only [ND.shape, Bool.and_eq_true] at this; exact this.1.2
theorem ND.Cut.upsOk : ups n.keys = true := by have := (ND.check_zero c.check).2.1; simp only [ND.shape, Bool.and_eq_true] at this; exact this.2
theorem ND.Cut.formOk : n.form = true := ND.shape_form (ND.check_zero c.check).2.1
theorem ND.Cut.keyOk : keyOk (n.keys[h]'c.lt) = true := List.all_eq_true.1 c.keysOk _ (List.getElem_mem c.lt)
theorem ND.Cut.left_lens : (n.left h).lens = true := by
  unfold ND.left
  cases n.leaf
  · simp [ND.lens, all_take c.keysOk]
  · simp [ND.lens, all_take c.keysOk, all_take c.valsOk]
theorem ND.Cut.right_lens : (n.right h).lens = true := by
  unfold ND.right
  cases n.leaf
  · simp [ND.lens, all_drop c.keysOk]
  · simp [ND.lens, all_drop c.keysOk, all_drop c.valsOk]
theorem ND.Cut.left_pcheck : (n.left h).pcheck true = 0 := by
  have hl := c.lt
  cases hf : n.leaf with
  | true =>
    obtain ⟨f1, f2⟩ := ND.form_leaf c.formOk hf
    refine pcheck_zero c.left_lens ?_ ?_ ?_
    · rw [ND.left, if_pos hf]; simp [ND.form]; omega
    · rw [ND.left, if_pos hf]; rfl
    · rw [ND.left, if_pos hf]; exact ups_take c.upsOk h
  | false =>
    obtain ⟨f1, f2⟩ := ND.form_inner c.formOk hf
    refine pcheck_zero c.left_lens ?_ ?_ ?_
    · rw [ND.left, if_neg (by rw [hf]; decide)]; simp [ND.form]; omega
    · rw [ND.left, if_neg (by rw [hf]; decide)]; exact all_take c.kidsOk _
    · rw [ND.left, if_neg (by rw [hf]; decide)]; exact ups_take c.upsOk h
theorem ND.Cut.right_pcheck : (n.right h).pcheck true = 0 := by
  have hl := c.lt
  cases hf : n.leaf with
  | true =>
    obtain ⟨f1, f2⟩ := ND.form_leaf c.formOk hf
    refine pcheck_zero c.right_lens ?_ ?_ ?_
    · rw [ND.right, if_pos hf]; simp [ND.form]; omega
    · rw [ND.right, if_pos hf]; rfl
    · rw [ND.right, if_pos hf]; exact ups_drop c.upsOk h
  | false =>
    obtain ⟨f1, f2⟩ := ND.form_inner c.formOk hf
    have := c.room hf
    refine pcheck_zero c.right_lens ?_ ?_ ?_
    · rw [ND.right, if_neg (by rw [hf]; decide)]; simp [ND.form]; omega
    · rw [ND.right, if_neg (by rw [hf]; decide)]; exact all_drop c.kidsOk _
    · rw [ND.right, if_neg (by rw [hf]; decide)]; exact ups_drop c.upsOk _
theorem ND.Cut.join : (n.left h).join (n.keys[h]'c.lt) (n.right h) = n := by
  have hl := c.lt
  cases n with
  | mk lf K V I =>
  cases lf with
  | true =>
    obtain ⟨f1, f2⟩ := ND.form_leaf c.formOk rfl
    have hI : I = [] := List.length_eq_zero_iff.1 f2
    subst hI
    simp [ND.join, ND.left, ND.right]
  | false =>
    obtain ⟨f1, f2⟩ := ND.form_inner c.formOk rfl
    have hV : V = [] := List.length_eq_zero_iff.1 f2
    subst hV
    have hk : K.take h ++ [K[h]'hl] ++ K.drop (h + 1) = K := by
      rw [← List.take_succ_eq_append_getElem hl, List.take_append_drop]
    simp only [ND.join, ND.left, ND.right, Bool.false_eq_true, if_false, hk, List.append_nil, List.take_append_drop]
theorem ND.Cut.left_keys : (n.left h).keys.length = h := by
  have := c.lt
  unfold ND.left; cases n.leaf <;> simp <;> omega
theorem ND.Cut.left_entry (i : Nat) (hi : i < h) : (n.left h).pentry i = n.pentry i := by
  have hl := c.lt
  cases hf : n.leaf with
  | true =>
    unfold ND.pentry
    rw [ND.left, if_pos hf]
    simp only [hf, if_true]
    rw [sz_take _ hi, sz_take _ hi]
  | false =>
    obtain ⟨f1, f2⟩ := ND.form_inner c.formOk hf
    have e : n.left h = ⟨false, n.keys.take h, [], n.kids.take (h + 1)⟩ := by rw [ND.left, if_neg (by rw [hf]; decide)]
    rw [e]
    unfold ND.pentry
    simp only [hf, Bool.false_eq_true, if_false]
    rw [sz_take _ hi, if_pos (show i + 1 < (n.kids.take (h + 1)).length by simp; omega), if_pos (show i + 1 < n.kids.length by omega)]
theorem ND.Cut.right_entry (i : Nat) (hi : i < (n.right h).keys.length) : (n.right h).pentry i = n.pentry ((if n.leaf then h else h + 1) + i) := by
  have hl := c.lt
  cases hf : n.leaf with
  | true =>
    unfold ND.pentry
    rw [ND.right, if_pos hf]
    simp only [hf, if_true]
    rw [sz_drop, sz_drop]
  | false =>
    obtain ⟨f1, f2⟩ := ND.form_inner c.formOk hf
    rw [c.right_keys, if_neg (by rw [hf]; decide)] at hi
    have e : n.right h = ⟨false, n.keys.drop (h + 1), [], n.kids.drop (h + 1)⟩ := by rw [ND.right, if_neg (by rw [hf]; decide)]
    rw [e]
    unfold ND.pentry
    simp only [hf, Bool.false_eq_true, if_false]
    rw [sz_drop, if_pos (show i + 1 < (n.kids.drop (h + 1)).length by simp; omega), if_pos (show h + 1 + i + 1 < n.kids.length by omega)]
theorem ND.Cut.left_sum : ∀ i, i ≤ h → (n.left h).psumTo i = n.psumTo i
  | 0, _ => rfl
  | i + 1, hi => by show (n.left h).psumTo i + (n.left h).pentry i = n.psumTo i + n.pentry i; rw [ND.Cut.left_sum i (by omega), c.left_entry i (by omega)]
theorem ND.Cut.right_sum : ∀ i, i ≤ (n.right h).keys.length → (n.right h).psumTo i = n.psumTo ((if n.leaf then h else h + 1) + i) - n.psumTo (if n.leaf then h else h + 1)
  | 0, _ => by show (0 : Int) = _; rw [Nat.add_zero]; omega
  | i + 1, hi => by
    show (n.right h).psumTo i + (n.right h).pentry i = n.psumTo ((if n.leaf then h else h + 1) + i) + n.pentry ((if n.leaf then h else h + 1) + i) - _
    rw [ND.Cut.right_sum i (by omega), c.right_entry i (by omega)]; omega
theorem ND.Cut.sizes (hs : n.rsize ≤ 642) : (n.left h).psize ≤ 512 ∧ (n.right h).psize ≤ 512 := by
  have hL := (ND.check_zero c.check).1
  rw [← psize_rsize c.formOk] at hs
  have hlt := c.lt
  have e0 := n.psumTo_pos n.keys.length
  have es : n.psumTo n.keys.length ≤ 626 := by unfold ND.psize at hs; split at hs <;> omega
  have el : 2 * n.psumTo h ≤ n.psumTo n.keys.length + 260 := c.half.left hL
  have er : n.psumTo n.keys.length - n.psumTo h ≤ 313 := by
    rcases Nat.lt_or_ge h n.last with a | a
    · have := c.half.more a
      omega
    · have hle := c.half.le
      have s1 : n.psumTo (h + 1) = n.psumTo h + n.pentry h := rfl
      have s2 : n.psumTo (h + 2) = n.psumTo (h + 1) + n.pentry (h + 1) := rfl
      have p1 := ND.pentry_le hL h
      have p2 := ND.pentry_le hL (h + 1)
      have : n.keys.length = h + 1 ∨ n.keys.length = h + 2 := by
        unfold ND.last at a hle
        split at a <;> split at hle <;> omega
      rcases this with q | q <;> rw [q] <;> omega
  have hm := ND.psumTo_mono n (show h ≤ h + 1 by omega)
  refine ⟨?_, ?_⟩
  · have := c.left_sum h (Nat.le_refl _)
    unfold ND.psize
    rw [c.left_keys, this]
    split <;> omega
  · have := c.right_sum _ (Nat.le_refl _)
    unfold ND.psize
    rw [this, c.right_keys]
    have e : (if n.leaf then h else h + 1) + (n.keys.length - (if n.leaf then h else h + 1)) = n.keys.length := by split <;> omega
    rw [e]
    have : n.psumTo h ≤ n.psumTo (if n.leaf then h else h + 1) := by split <;> omega
    split <;> omega
end
end Go.Proofs.Ytjdkalimaldofaa
