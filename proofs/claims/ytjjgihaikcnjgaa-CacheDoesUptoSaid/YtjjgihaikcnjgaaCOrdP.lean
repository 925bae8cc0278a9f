/-
  CacheOrdered as plain data: what a call writes, and which dirty frames it leaves.
-/
import Derived.Test.YtjjgihaikcnjgaaCSameP
namespace Go.Proofs.Ytjjgihaikcnjgaa
open Go.RowKit Go.Maps
set_option linter.unusedSimpArgs false
set_option linter.unusedVariables false
set_option maxRecDepth 100000

/-- what a call wrote, and which dirty frames it left -/
structure Wro (s t : CS) (ex : Int → Prop) (L : List Frm) : Prop where
  pend : t.d.sectors = s.d.sectors ++ L.map Frm.sector
  mem : ∀ f ∈ L, f ∈ s.frames ∧ f.dirty = true
  sorted : L.Pairwise (fun a b => a.order ≤ b.order)
  left : ∀ g ∈ t.frames, g.dirty = true → ¬ ex g.sector → ∀ g' ∈ s.frames, g'.sector = g.sector → g'.dirty = true → ∀ f ∈ L, f.order ≤ g'.order
theorem Wro.nil {s t : CS} {ex : Int → Prop} (h : t.d.sectors = s.d.sectors) : Wro s t ex [] := ⟨by simp [h], by simp, List.Pairwise.nil, fun _ _ _ _ _ _ _ _ f hf => by simp at hf⟩
theorem Wro.sub {s t t' : CS} {ex ex' : Int → Prop} {L : List Frm} (h : Wro s t ex L) (hd : t'.d.sectors = t.d.sectors) (hf : ∀ g ∈ t'.frames, g.dirty = true → ¬ ex' g.sector → ∃ g1 ∈ t.frames, g1.sector = g.sector ∧ g1.dirty = true ∧ ¬ ex g.sector) : Wro s t' ex' L := by
  refine ⟨hd.trans h.pend, h.mem, h.sorted, fun g hg hgd he g' hg' e hd' f hfL => ?_⟩
  obtain ⟨g1, h1, e1, d1, x1⟩ := hf g hg hgd he
  exact h.left g1 h1 d1 (by rw [e1]; exact x1) g' hg' (e.trans e1.symm) hd' f hfL
theorem sectors_wrote {s : DS} (ha : s.stops = false) {n : Int} {l : List Int} (hf : s.fit n l = true) : (s.wrote n l).sectors = s.sectors ++ [n] := by
  unfold DS.wrote
  rw [hf]
  simp [DS.write, DS.alive, ha, DS.sectors]
theorem fold_sectors : ∀ (L : List Frm) (t : CS), t.Ok → (∀ f ∈ L, (0 ≤ f.sector ∧ f.sector < t.d.count) ∧ (f.bytes.length : Int) = t.d.size) → (L.foldl CS.write1 t).d.sectors = t.d.sectors ++ L.map Frm.sector
  | [], t, _, _ => by simp
  | f :: L, t, ok, h => by
    obtain ⟨h0, h1⟩ := h f (by simp)
    have ok1 := write1_Ok ok h0 h1
    have hfit : t.d.fit f.sector f.bytes = true := fit_iff.2 ⟨h0.1, h0.2, h1⟩
    have k := fold_sectors L (t.write1 f) ok1 (fun g hg => by rw [write1_d, wrote_count, wrote_size]; exact h g (by simp [hg]))
    have e : (t.write1 f).d.sectors = t.d.sectors ++ [f.sector] := sectors_wrote ok.on hfit
    rw [List.foldl_cons, k, e]
    simp
theorem before_le (a b : Frm) (h : (!Frm.before b a) = true) : a.order ≤ b.order := by
  unfold Frm.before at h
  simp only [Bool.not_eq_true', Bool.or_eq_false_iff, decide_eq_false_iff_not] at h
  omega
theorem due_sorted (t : CS) (o : Int) : (t.due o).Pairwise (fun a b => a.order ≤ b.order) := by
  have h : (t.due o).Pairwise (fun x y => (!Frm.before y x) = true) := by
    unfold CS.due
    refine List.pairwise_mergeSort (fun a b c h1 h2 => ?_) (fun a b => ?_) _
    · unfold Frm.before at *
      simp only [Bool.not_eq_true', Bool.or_eq_false_iff, Bool.and_eq_false_iff, decide_eq_false_iff_not, beq_eq_false_iff_ne] at *
      omega
    · unfold Frm.before
      rcases Int.lt_trichotomy a.order b.order with h | h | h
      · have h1 : decide (b.order < a.order) = false := by simp; omega
        have h2 : (b.order == a.order) = false := by simp; omega
        simp [h1, h2]
      · rcases (show b.sector < a.sector ∨ a.sector ≤ b.sector by omega) with k | k
        · have h1 : decide (a.order < b.order) = false := by simp; omega
          have h2 : decide (a.sector < b.sector) = false := by simp; omega
          simp [h1, h2]
        · have h1 : decide (b.order < a.order) = false := by simp; omega
          have h2 : decide (b.sector < a.sector) = false := by simp; omega
          simp [h1, h2]
      · have h1 : decide (a.order < b.order) = false := by simp; omega
        have h2 : (a.order == b.order) = false := by simp; omega
        simp [h1, h2]
  exact h.imp (fun {a b} k => before_le a b k)
theorem upTo_wro {t : CS} (ok : t.Ok) (hc : Clean t) (o : Int) : Wro t (t.upTo o) (fun _ => False) (t.due o) := by
  refine ⟨fold_sectors _ t ok (fun f hf => ⟨ok.at0 f (due_mem.1 hf).1, ok.size f (due_mem.1 hf).1⟩), fun f hf => ?_, due_sorted t o, fun g hg hd _ g' hg' e hd' f hf => ?_⟩
  · obtain ⟨h1, h2⟩ := due_mem.1 hf
    exact ⟨h1, by simp [Frm.due] at h2; exact h2.1⟩
  · obtain ⟨g1, hg1, e1, _, e3⟩ := (upTo_is ok hc o).2 g hg
    have e4 : g1 = g' := uniqF ok hg1 hg' (e1.symm.trans e.symm)
    subst e4
    obtain ⟨_, h2⟩ := due_mem.1 hf
    rcases e3 with ⟨_, h⟩ | ⟨h, _⟩
    · rw [hd] at h; cases h
    · unfold Frm.due at h h2
      rw [hd'] at h
      simp at h h2
      omega
theorem made_wro {t : CS} (ok : t.Ok) (hc : Clean t) : ∃ L, Wro t t.made.2 (fun _ => False) L := by
  unfold CS.made
  split
  · exact ⟨[], Wro.nil rfl⟩
  · cases ho : t.old with
    | none => exact ⟨[], Wro.nil rfl⟩
    | some f =>
      simp only
      split
      · exact ⟨_, (upTo_wro ok hc f.order).sub rfl (fun g hg hd _ => ⟨g, (List.mem_filter.1 hg).1, rfl, hd, not_false⟩)⟩
      · exact ⟨[], Wro.nil rfl⟩
theorem fetch_wro {t : CS} (ok : t.Ok) (hc : Clean t) (n : Int) : ∃ L, Wro t (t.fetch n).2 (fun _ => False) L := by
  unfold CS.fetch
  cases hl : t.look n with
  | some f => exact ⟨[], Wro.nil rfl⟩
  | none =>
    simp only
    split
    · have ok2 : ({ t with d := t.d.read, misses := wrap64 (t.misses + 1) } : CS).Ok := ⟨read_Ok ok.d, ok.on, ok.room0, ok.room1, ok.len, ok.nodup, ok.at0, ok.size, ok.order⟩
      obtain ⟨L, h⟩ := made_wro ok2 (show Clean _ from hc)
      have h' : Wro t ({ t with d := t.d.read, misses := wrap64 (t.misses + 1) } : CS).made.2 (fun _ => False) L := ⟨h.pend, h.mem, h.sorted, h.left⟩
      split
      · refine ⟨L, h'.sub rfl (fun g hg hd _ => ?_)⟩
        rcases List.mem_append.1 hg with hg | hg
        · exact ⟨g, hg, rfl, hd, not_false⟩
        · simp at hg; subst hg; cases hd
      · exact ⟨L, h'⟩
    · exact ⟨[], Wro.nil rfl⟩
theorem pin_wro {t : CS} (ok : t.Ok) (hc : Clean t) (n : Int) : ∃ L, Wro t (t.pin n).2 (fun _ => False) L := by
  obtain ⟨L, h⟩ := fetch_wro ok hc n
  unfold CS.pin
  split
  · refine ⟨L, h.sub rfl (fun g hg hd _ => ?_)⟩
    unfold CS.onLast at hg
    rcases List.mem_append.1 hg with hg | hg
    · exact ⟨g, List.dropLast_subset _ hg, rfl, hd, not_false⟩
    · obtain ⟨g0, hg0, rfl⟩ := List.mem_map.1 hg
      exact ⟨g0, List.mem_of_mem_drop hg0, rfl, hd, not_false⟩
  · exact ⟨L, h⟩
theorem unpin_wro (t : CS) (n : Int) : ∃ L, Wro t (t.unpin n).2 (fun _ => False) L := by
  refine ⟨[], Wro.nil ?_⟩
  unfold CS.unpin
  split
  · rfl
  · split <;> rfl
theorem drop_wro (t : CS) : ∃ L, Wro t t.drop (fun _ => False) L := ⟨[], Wro.nil rfl⟩
theorem put_wro {t : CS} (ok : t.Ok) (hc : Clean t) (n : Int) (l : List Int) (o : Int) : ∃ L, Wro t (t.put n l o).2 (fun m => m = n) L := by
  unfold CS.put
  split
  · cases hl : t.look n with
    | some f =>
      simp only
      refine ⟨[], Wro.nil ?_⟩
      split <;> rfl
    | none =>
      obtain ⟨L, h⟩ := made_wro ok hc
      simp only
      split
      · refine ⟨L, h.sub rfl (fun g hg hd he => ?_)⟩
        rcases List.mem_append.1 hg with hg | hg
        · exact ⟨g, hg, rfl, hd, not_false⟩
        · simp at hg; subst hg; exact absurd rfl he
      · exact ⟨L, h.sub rfl (fun g hg hd _ => ⟨g, hg, rfl, hd, not_false⟩)⟩
  · exact ⟨[], Wro.nil rfl⟩
/-- a sector's order among frames; false: it is not dirty there -/
def Frm.hit (n : Int) (f : Frm) : Bool := f.sector == n && f.dirty
def ordL (l : List Frm) (n : Int) : Int × Bool := match l.find? (Frm.hit n) with | some f => (f.order, true) | none => (0, false)
theorem ordL_hit {l : List Frm} {n : Int} {j : Nat} (hj : j < l.length) (h : ∀ i (hi : i < j), Frm.hit n (l[i]'(by omega)) = false) (hp : Frm.hit n l[j] = true) : ordL l n = (l[j].order, true) := by
  have e : l.find? (Frm.hit n) = some l[j] := List.find?_eq_some_iff_getElem.2 ⟨hp, j, hj, rfl, fun i hi => by rw [h i hi]; rfl⟩
  unfold ordL; rw [e]
theorem ordL_none {l : List Frm} {n : Int} (h : ∀ i (hi : i < l.length), Frm.hit n l[i] = false) : ordL l n = (0, false) := by
  have e : l.find? (Frm.hit n) = none := by
    rw [List.find?_eq_none]
    intro f hf
    obtain ⟨i, hi, rfl⟩ := List.getElem_of_mem hf
    simp [h i hi]
  unfold ordL; rw [e]
theorem ordL_of {t : CS} (ok : t.Ok) {f : Frm} (hf : f ∈ t.frames) (hd : f.dirty = true) : ordL t.frames f.sector = (f.order, true) := by
  have e : t.frames.find? (Frm.hit f.sector) = some f := by
    cases h : t.frames.find? (Frm.hit f.sector) with
    | none =>
      rw [List.find?_eq_none] at h
      have := h f hf
      simp [Frm.hit, hd] at this
    | some g =>
      have h1 := List.find?_some h
      have h2 := List.mem_of_find?_eq_some h
      simp [Frm.hit] at h1
      rw [uniqF ok h2 hf h1.1]
  unfold ordL; rw [e]
theorem ordL_some {l : List Frm} {n x : Int} (h : ordL l n = (x, true)) : ∃ f ∈ l, f.sector = n ∧ f.dirty = true ∧ f.order = x := by
  unfold ordL at h
  cases hf : l.find? (Frm.hit n) with
  | none => rw [hf] at h; cases h
  | some f =>
    rw [hf] at h
    have h1 := List.find?_some hf
    simp [Frm.hit] at h1
    exact ⟨f, List.mem_of_find?_eq_some hf, h1.1, h1.2, (Prod.mk.inj h).1⟩
/-- rising finds nothing wrong -/
structure Rises (F : List Frm) (L : List Frm) (G : List Frm) (kind sec : Int) : Prop where
  was : ∀ j (h : j < L.length), ordL F L[j].sector = (L[j].order, true)
  up : ∀ j (h : j + 1 < L.length), L[j].order ≤ L[j + 1].order
  left : ∀ g ∈ G, ∀ h : 0 < L.length, (g.dirty && ((ordL F g.sector).2 && (decide ((ordL F g.sector).1 < (L[L.length - 1]'(by omega)).order) && !(kind == 3 && g.sector == sec)))) = false
theorem Wro.rises {s t : CS} {ex : Int → Prop} {L : List Frm} (h : Wro s t ex L) (ok : s.Ok) {kind sec : Int} (hx : ∀ m, ex m → kind = 3 ∧ m = sec) : Rises s.frames L t.frames kind sec := by
  refine ⟨fun j hj => ordL_of ok (h.mem _ (List.getElem_mem hj)).1 (h.mem _ (List.getElem_mem hj)).2, fun j hj => (List.pairwise_iff_getElem.1 h.sorted) j (j + 1) (by omega) hj (by omega), fun g hg hl => ?_⟩
  cases hd : g.dirty with
  | false => rfl
  | true =>
    rcases hr : ordL s.frames g.sector with ⟨x, b⟩
    cases b with
    | false => rfl
    | true =>
      obtain ⟨g', hg', e1, e2, rfl⟩ := ordL_some hr
      by_cases hex : ex g.sector
      · obtain ⟨rfl, e3⟩ := hx _ hex
        simp [e3]
      · have := h.left g hg hd hex g' hg' e1 e2 _ (List.getElem_mem (show L.length - 1 < L.length by omega))
        have hd2 : decide (g'.order < (L[L.length - 1]'(by omega)).order) = false := by simp; omega
        simp [hd2]
end Go.Proofs.Ytjjgihaikcnjgaa
