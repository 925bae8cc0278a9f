/-
  The document's table: a list of open descriptors by their numbers: what is plain of it: no Go here.
-/
import Derived.Test.YtbkblfhhhhkeaaaFullPlain
namespace Go.Proofs.Ytbkblfhhhhkeaaa
open Go.RowKit
set_option linter.unusedSimpArgs false
set_option linter.unusedVariables false

abbrev Hd := Int × (Int × Int)
/-- those that are open, from number s on -/
def opn : Nat → List (Int × Int) → List Hd
  | _, [] => []
  | s, p :: l => (if 0 < p.1 then [((s : Int), p)] else []) ++ opn (s + 1) l
theorem opn_append (l m : List (Int × Int)) : ∀ s, opn s (l ++ m) = opn s l ++ opn (s + l.length) m := by
  induction l with
  | nil => intro s; simp [opn]
  | cons p l ih => intro s; simp only [List.cons_append, opn, ih, List.append_assoc, List.length_cons]; rw [show s + 1 + l.length = s + (l.length + 1) by omega]
theorem opensTo_opn (l : List (Int × Int)) : ∀ k, k ≤ l.length → opensTo l k = opn 0 (l.take k)
  | 0, _ => by simp [opensTo, opn]
  | k + 1, h => by
    have e := nth_get (l := l) (n := k) (by omega)
    rw [List.getElem?_eq_getElem (by omega)] at e
    injection e with e
    rw [List.take_succ_eq_append_getElem (by omega), opn_append, ← opensTo_opn l k (by omega), e]
    simp only [opensTo, opn, List.append_nil, List.length_take, Nat.zero_add]
    rw [Nat.min_eq_left (by omega)]
theorem opens_opn {l : List (Int × Int)} (h : l.length = 64) : opens l = opn 0 l := by
  rw [opens, opensTo_opn l 64 (by omega), List.take_of_length_le (by omega)]
theorem opn_mem : ∀ (l : List (Int × Int)) (s : Nat) (p : Hd), p ∈ opn s l → (s : Int) ≤ p.1 ∧ p.1 < s + l.length ∧ 0 < p.2.1
  | [], s, p, h => by simp [opn] at h
  | q :: l, s, p, h => by
    simp only [opn, List.mem_append] at h
    rcases h with h | h
    · split at h
      · simp at h; subst h; simp; omega
      · simp at h
    · have := opn_mem l (s + 1) p h
      simp only [List.length_cons]; omega

/-- where a number stands; -1: it is not open -/
def findIx (hs : List Hd) (n : Int) : Int := match hs.findIdx? (fun p => p.1 == n) with | some i => (i : Int) | none => -1
theorem findIx_at {hs : List Hd} {n : Int} {i : Nat} (h : i < hs.length) (h0 : hs[i].1 = n) (hj : ∀ j, (hj : j < hs.length) → j < i → hs[j].1 ≠ n) : findIx hs n = i := by
  have : hs.findIdx? (fun p => p.1 == n) = some i := by
    rw [List.findIdx?_eq_some_iff_getElem]
    exact ⟨h, by simp [h0], fun j hj' => by have := hj j (by omega) hj'; simpa using this⟩
  simp [findIx, this]
theorem findIx_none {hs : List Hd} {n : Int} (hj : ∀ p ∈ hs, p.1 ≠ n) : findIx hs n = -1 := by
  have : hs.findIdx? (fun p => p.1 == n) = none := by
    rw [List.findIdx?_eq_none_iff]
    intro p hp
    simpa using hj p hp
  simp [findIx, this]
theorem split_at {l : List (Int × Int)} {n : Nat} (h : n < l.length) : l = l.take n ++ nth l n :: l.drop (n + 1) := by
  have e := nth_get h
  rw [List.getElem?_eq_getElem h] at e
  injection e with e
  rw [← e]; simp
theorem opn_split {l : List (Int × Int)} {n : Nat} (h : n < l.length) : opn 0 l = opn 0 (l.take n) ++ ((if 0 < (nth l n).1 then [((n : Int), nth l n)] else []) ++ opn (n + 1) (l.drop (n + 1))) := by
  conv => lhs; rw [split_at h]
  rw [opn_append]
  simp only [opn, Nat.zero_add, List.length_take]
  rw [Nat.min_eq_left (by omega)]
theorem opn_set {l : List (Int × Int)} {n : Nat} (h : n < l.length) (x : Int × Int) : opn 0 (l.set n x) = opn 0 (l.take n) ++ ((if 0 < x.1 then [((n : Int), x)] else []) ++ opn (n + 1) (l.drop (n + 1))) := by
  rw [opn_split (by simpa using h)]
  congr 1
  · rw [List.take_set_of_le (Nat.le_refl _)]
  · rw [List.drop_set_of_lt (by omega)]
    have : nth (l.set n x) n = x := by rw [nth_set _ _ _ _ h]; simp
    rw [this]
theorem find_open {l : List (Int × Int)} {n : Nat} (h : n < l.length) (ho : 0 < (nth l n).1) :
    findIx (opn 0 l) n = (opn 0 (l.take n)).length ∧ (opn 0 l)[(opn 0 (l.take n)).length]? = some ((n : Int), nth l n) := by
  have e := opn_split h
  rw [if_pos ho] at e
  have hx : (opn 0 l)[(opn 0 (l.take n)).length]? = some ((n : Int), nth l n) := by rw [e]; simp
  refine ⟨?_, hx⟩
  obtain ⟨hlt, hx'⟩ := List.getElem?_eq_some_iff.1 hx
  refine findIx_at hlt (by rw [hx']) (fun j hj hji => ?_)
  have hm : (opn 0 l)[j] ∈ opn 0 (l.take n) := by
    have : (opn 0 l)[j]? = (opn 0 (l.take n))[j]? := by rw [e, List.getElem?_append_left hji]
    rw [List.getElem?_eq_getElem hj, List.getElem?_eq_getElem hji] at this
    injection this with this
    rw [this]; exact List.getElem_mem _
  have := opn_mem _ _ _ hm
  simp only [List.length_take] at this
  omega
theorem find_shut {l : List (Int × Int)} {n : Int} (h : ¬ (0 ≤ n ∧ n < l.length ∧ 0 < (nth l n.toNat).1)) : findIx (opn 0 l) n = -1 := by
  refine findIx_none (fun p hp hpn => h ?_)
  have hm := opn_mem _ _ _ hp
  subst hpn
  refine ⟨by omega, by omega, ?_⟩
  have hlt : p.1.toNat < l.length := by omega
  have e := opn_split hlt
  rw [e] at hp
  rcases List.mem_append.1 hp with hp | hp
  · have := opn_mem _ _ _ hp; simp only [List.length_take] at this; omega
  · rcases List.mem_append.1 hp with hp | hp
    · split at hp
      · rename_i h; exact h
      · simp at hp
    · have := opn_mem _ _ _ hp; omega
theorem cut_open {l : List (Int × Int)} {n : Nat} (h : n < l.length) (ho : 0 < (nth l n).1) :
    (opn 0 l).take (opn 0 (l.take n)).length ++ (opn 0 l).drop ((opn 0 (l.take n)).length + 1) = opn 0 (l.set n (0, 0)) := by
  rw [opn_set h, opn_split h, if_pos ho, if_neg (by simp)]
  simp only [List.nil_append, List.take_left, List.cons_append]
  congr 1
  rw [List.drop_append]; simp

/-- n stand at their own numbers, and no more -/
def IsGap (hs : List Hd) (n : Nat) : Prop := n ≤ hs.length ∧ (∀ j (_ : j < hs.length), j < n → hs[j].1 = j) ∧ (∀ _ : n < hs.length, hs[n].1 ≠ n)
theorem opn_full : ∀ (l : List (Int × Int)) (s : Nat), (∀ p ∈ l, 0 < p.1) → (opn s l).length = l.length ∧ ∀ j (h : j < (opn s l).length), (opn s l)[j].1 = (s + j : Nat)
  | [], s, _ => by simp [opn]
  | p :: l, s, h => by
    obtain ⟨h1, h2⟩ := opn_full l (s + 1) (fun q hq => h q (List.mem_cons_of_mem _ hq))
    have hp := h p List.mem_cons_self
    have e : opn s (p :: l) = ((s : Int), p) :: opn (s + 1) l := by simp [opn, hp]
    rw [e]
    refine ⟨by simp [h1], fun j hj => ?_⟩
    cases j with
    | zero => simp
    | succ j =>
      simp only [List.getElem_cons_succ]
      rw [h2 j (by simpa using hj)]
      omega
/-- no inode is below 0 -/
def TabOk (l : List (Int × Int)) : Prop := ∀ j, j < l.length → 0 ≤ (nth l j).1 ∧ (nth l j).1 ≤ 9223372036854775807
theorem take_pos {l : List (Int × Int)} (ok : TabOk l) {n : Nat} (hn : n ≤ l.length) (hj : ∀ j, j < n → (nth l j).1 ≠ 0) : ∀ p ∈ l.take n, 0 < p.1 := by
  intro p hp
  obtain ⟨j, hj1, rfl⟩ := List.mem_iff_getElem.1 hp
  simp only [List.length_take] at hj1
  have e := nth_get (l := l) (n := j) (by omega)
  rw [List.getElem?_eq_getElem (by omega)] at e
  injection e with e
  rw [List.getElem_take, e]
  have := ok j (by omega)
  have := hj j (by omega)
  omega
theorem gap_free {l : List (Int × Int)} (ok : TabOk l) {n : Nat} (hn : n < l.length) (h0 : (nth l n).1 = 0) (hj : ∀ j, j < n → (nth l j).1 ≠ 0) :
    IsGap (opn 0 l) n ∧ ∀ x : Int × Int, 0 < x.1 → (opn 0 l).take n ++ ((n : Int), x) :: (opn 0 l).drop n = opn 0 (l.set n x) := by
  obtain ⟨f1, f2⟩ := opn_full (l.take n) 0 (take_pos ok (by omega) hj)
  have hl : (opn 0 (l.take n)).length = n := by rw [f1, List.length_take]; omega
  have e := opn_split hn
  rw [if_neg (by omega), List.nil_append] at e
  have ht : (opn 0 l).take n = opn 0 (l.take n) := by rw [e, List.take_left' hl]
  have hd : (opn 0 l).drop n = opn (n + 1) (l.drop (n + 1)) := by rw [e, List.drop_left' hl]
  refine ⟨⟨by rw [e, List.length_append]; omega, fun j hj1 hj2 => ?_, fun h1 h2 => ?_⟩, fun x hx => ?_⟩
  · have : (opn 0 l)[j]? = (opn 0 (l.take n))[j]? := by rw [← ht, List.getElem?_take, if_pos hj2]
    rw [List.getElem?_eq_getElem hj1, List.getElem?_eq_getElem (by omega)] at this
    injection this with this
    rw [this, f2 j (by omega)]; simp
  · have hm : (opn 0 l)[n] ∈ opn (n + 1) (l.drop (n + 1)) := by
      rw [← hd]
      have : (opn 0 l)[n] = ((opn 0 l).drop n)[0]'(by simp; omega) := by simp
      rw [this]; exact List.getElem_mem _
    have := opn_mem _ _ _ hm
    omega
  · rw [ht, hd, opn_set hn, if_pos hx]; simp
theorem gap_full {l : List (Int × Int)} (ok : TabOk l) (hl : l.length = 64) (hj : ∀ j, j < l.length → (nth l j).1 ≠ 0) : IsGap (opn 0 l) 64 := by
  have hp := take_pos ok (Nat.le_refl _) hj
  rw [List.take_length] at hp
  obtain ⟨f1, f2⟩ := opn_full l 0 hp
  exact ⟨by omega, fun j h1 h2 => by rw [f2 j h1]; simp, fun h => by omega⟩
theorem opn_len (l : List (Int × Int)) : ∀ s, (opn s l).length ≤ l.length := by
  induction l with
  | nil => intro s; simp [opn]
  | cons p l ih => intro s; have := ih (s + 1); simp only [opn, List.length_append, List.length_cons]; split <;> simp <;> omega
theorem IsGap.uniq {hs : List Hd} {n m : Nat} (h : IsGap hs n) (k : IsGap hs m) : n = m := by
  obtain ⟨h1, h2, h3⟩ := h
  obtain ⟨k1, k2, k3⟩ := k
  rcases Nat.lt_trichotomy n m with h | h | h
  · have := k2 n (by omega) h; exact absurd this (h3 (by omega))
  · exact h
  · have := h2 m (by omega) h; exact absurd this (k3 (by omega))
theorem TabOk.set {l : List (Int × Int)} (ok : TabOk l) (n : Nat) (x : Int × Int) (hx : 0 ≤ x.1 ∧ x.1 ≤ 9223372036854775807) : TabOk (l.set n x) := by
  intro j hj
  simp only [List.length_set] at hj
  by_cases hn : n < l.length
  · rw [nth_set _ _ _ _ hn]; split
    · exact hx
    · exact ok j hj
  · rw [List.set_eq_of_length_le (by omega)]; exact ok j hj
theorem noTab_ok : TabOk noTab := by
  intro j hj
  rw [noTab_len] at hj
  have e : ∀ n, nth (List.replicate n ((0 : Int), (0 : Int))) j = (0, 0) := fun n => by
    simp only [nth, List.getD_eq_getElem?_getD, List.getElem?_replicate]
    split <;> rfl
  unfold noTab
  rw [e]
  exact ⟨Int.le_refl _, by decide⟩

/-! ### inodes -/
/-- put into a rising list, once -/
def insIno : List Int → Int → List Int
  | [], x => [x]
  | y :: l, x => if y < x then y :: insIno l x else if y = x then y :: l else x :: y :: l
def inosOf (hs : List Hd) : List Int := hs.foldl (fun l p => insIno l p.2.1) []
theorem insIno_mem (l : List Int) (x y : Int) : y ∈ insIno l x ↔ y = x ∨ y ∈ l := by
  induction l with
  | nil => simp [insIno]
  | cons a l ih =>
    simp only [insIno]
    split
    · simp only [List.mem_cons, ih]; constructor
      · rintro (h | h | h) <;> simp [h]
      · rintro (h | h | h) <;> simp [h]
    · split
      · rename_i h; subst h; simp
      · simp
def Rising (l : List Int) : Prop := l.Pairwise (· < ·)
theorem insIno_rising (l : List Int) (x : Int) (h : Rising l) : Rising (insIno l x) := by
  induction l with
  | nil => simp [insIno, Rising]
  | cons a l ih =>
    unfold Rising at *
    rw [List.pairwise_cons] at h
    simp only [insIno]
    split
    · rename_i hax
      rw [List.pairwise_cons]
      refine ⟨fun y hy => ?_, ih h.2⟩
      rcases (insIno_mem _ _ _).1 hy with rfl | hy
      · exact hax
      · exact h.1 y hy
    · split
      · exact List.pairwise_cons.2 h
      · rename_i h1 h2
        rw [List.pairwise_cons]
        refine ⟨fun y hy => ?_, List.pairwise_cons.2 h⟩
        rcases List.mem_cons.1 hy with rfl | hy
        · omega
        · have := h.1 y hy; omega
theorem rising_ext {l m : List Int} (hl : Rising l) (hm : Rising m) (h : ∀ x, x ∈ l ↔ x ∈ m) : l = m := by
  induction l generalizing m with
  | nil =>
    cases m with
    | nil => rfl
    | cons y m => have := (h y).2 (by simp); simp at this
  | cons a l ih =>
    unfold Rising at *
    cases m with
    | nil => have := (h a).1 (by simp); simp at this
    | cons y m =>
      rw [List.pairwise_cons] at hl hm
      have e : a = y := by
        have h1 := (h a).1 (by simp)
        have h2 := (h y).2 (by simp)
        rcases List.mem_cons.1 h1 with h1 | h1
        · exact h1
        · rcases List.mem_cons.1 h2 with h2 | h2
          · exact h2.symm
          · have := hl.1 y h2; have := hm.1 a h1; omega
      subst e
      congr 1
      refine ih hl.2 hm.2 (fun x => ?_)
      have hx := h x
      simp only [List.mem_cons] at hx
      constructor
      · intro k
        rcases hx.1 (Or.inr k) with rfl | k'
        · exact absurd (hl.1 x k) (by omega)
        · exact k'
      · intro k
        rcases hx.2 (Or.inr k) with rfl | k'
        · exact absurd (hm.1 x k) (by omega)
        · exact k'
theorem foldl_ino (hs : List Hd) : ∀ l, Rising l → Rising (hs.foldl (fun l p => insIno l p.2.1) l) ∧ ∀ x, x ∈ hs.foldl (fun l p => insIno l p.2.1) l ↔ (x ∈ l ∨ ∃ p ∈ hs, p.2.1 = x) := by
  induction hs with
  | nil => intro l h; exact ⟨h, fun x => by simp⟩
  | cons p hs ih =>
    intro l h
    obtain ⟨h1, h2⟩ := ih (insIno l p.2.1) (insIno_rising _ _ h)
    refine ⟨h1, fun x => ?_⟩
    simp only [List.foldl_cons]
    rw [h2, insIno_mem]
    constructor
    · rintro ((rfl | h) | ⟨q, hq, e⟩)
      · exact Or.inr ⟨p, by simp, rfl⟩
      · exact Or.inl h
      · exact Or.inr ⟨q, by simp [hq], e⟩
    · rintro (h | ⟨q, hq, e⟩)
      · exact Or.inl (Or.inr h)
      · rcases List.mem_cons.1 hq with rfl | hq
        · exact Or.inl (Or.inl e.symm)
        · exact Or.inr ⟨q, hq, e⟩
theorem inosOf_rising (hs : List Hd) : Rising (inosOf hs) := (foldl_ino hs [] (by simp [Rising])).1
theorem inosOf_mem (hs : List Hd) (x : Int) : x ∈ inosOf hs ↔ ∃ p ∈ hs, p.2.1 = x := by
  rw [inosOf, (foldl_ino hs [] (by simp [Rising])).2]; simp
theorem insIno_len (l : List Int) (x : Int) : (insIno l x).length ≤ l.length + 1 := by
  induction l with
  | nil => simp [insIno]
  | cons a l ih => simp only [insIno]; split; (simp; omega); split <;> simp
theorem inosOf_take (hs : List Hd) (k : Nat) (h : k < hs.length) : inosOf (hs.take (k + 1)) = insIno (inosOf (hs.take k)) hs[k].2.1 := by
  rw [List.take_succ_eq_append_getElem h, inosOf, List.foldl_append]; rfl
theorem inosOf_len (hs : List Hd) : (inosOf hs).length ≤ hs.length := by
  have : ∀ l, (hs.foldl (fun l p => insIno l p.2.1) l).length ≤ l.length + hs.length := by
    induction hs with
    | nil => intro l; simp
    | cons p hs ih => intro l; have := ih (insIno l p.2.1); have := insIno_len l p.2.1; simp only [List.foldl_cons, List.length_cons]; omega
  simpa [inosOf] using this []
/-- where it belongs -/
theorem insIno_at (l : List Int) (x : Int) (n : Nat) (hn : n ≤ l.length) (hlo : ∀ j (h : j < l.length), j < n → l[j] < x) (hhi : ∀ h : n < l.length, ¬ l[n] < x) :
    insIno l x = if (∃ h : n < l.length, l[n] = x) then l else l.take n ++ x :: l.drop n := by
  induction l generalizing n with
  | nil => simp at hn; subst hn; simp [insIno]
  | cons a l ih =>
    cases n with
    | zero =>
      have h0 := hhi (by simp)
      simp only [List.getElem_cons_zero] at h0
      simp only [insIno, if_neg h0]
      by_cases e : a = x
      · rw [if_pos e, if_pos ⟨by simp, by simpa using e⟩]
      · rw [if_neg e, if_neg (by rintro ⟨_, h⟩; exact e (by simpa using h))]; simp
    | succ n =>
      have h0 := hlo 0 (by simp) (by omega)
      simp only [List.getElem_cons_zero] at h0
      simp only [insIno, if_pos h0]
      rw [ih n (by simpa using hn) (fun j h1 h2 => by have := hlo (j + 1) (by simpa using h1) (by omega); simpa using this) (fun h => by have := hhi (by simpa using h); simpa using this)]
      by_cases e : ∃ h : n < l.length, l[n] = x
      · obtain ⟨h, e⟩ := e
        rw [if_pos ⟨h, e⟩, if_pos ⟨by simpa using h, by simpa using e⟩]
      · rw [if_neg e, if_neg (by rintro ⟨h, e'⟩; exact e ⟨by simpa using h, by simpa using e'⟩)]; simp
theorem opn_wf {l : List (Int × Int)} (ok : TabOk l) (hl : l.length = 64) : ∀ p ∈ opens l, 0 ≤ p.2.1 ∧ p.2.1 ≤ 9223372036854775807 := by
  intro p hp
  rw [opens_opn hl] at hp
  have : ∀ (m : List (Int × Int)) (s : Nat), (∀ q ∈ m, 0 ≤ q.1 ∧ q.1 ≤ 9223372036854775807) → ∀ p ∈ opn s m, 0 ≤ p.2.1 ∧ p.2.1 ≤ 9223372036854775807 := by
    intro m
    induction m with
    | nil => intro s _ p hp; simp [opn] at hp
    | cons q m ih =>
      intro s hq p hp
      simp only [opn, List.mem_append] at hp
      rcases hp with hp | hp
      · split at hp
        · simp at hp; subst hp; exact hq q (by simp)
        · simp at hp
      · exact ih (s + 1) (fun r hr => hq r (by simp [hr])) p hp
  refine this l 0 (fun q hq => ?_) p hp
  obtain ⟨j, hj, rfl⟩ := List.mem_iff_getElem.1 hq
  have e := nth_get hj
  rw [List.getElem?_eq_getElem hj] at e
  injection e with e
  rw [e]
  exact ok j hj
end Go.Proofs.Ytbkblfhhhhkeaaa
