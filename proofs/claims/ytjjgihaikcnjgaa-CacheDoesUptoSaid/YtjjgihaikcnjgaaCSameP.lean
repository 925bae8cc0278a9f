/-
  CacheSame as plain data: what a sector holds.
-/
import Derived.Test.YtjjgihaikcnjgaaCHoldsP
import Derived.Test.YtjjgihaikcnjgaaDWholePlain
namespace Go.Proofs.Ytjjgihaikcnjgaa
open Go.RowKit Go.Maps
set_option linter.unusedSimpArgs false
set_option linter.unusedVariables false
set_option maxRecDepth 100000

/-- what a sector reads as -/
def CS.cur (t : CS) (n : Int) : List Int := match t.look n with | some f => f.bytes | none => t.d.sector n
def Clean (t : CS) : Prop := ∀ f ∈ t.frames, f.dirty = false → f.bytes = t.d.sector f.sector
structure SameAs (s t : CS) : Prop where
  clean : Clean t
  cur : ∀ n, t.cur n = s.cur n
theorem SameAs.refl {s : CS} (h : Clean s) : SameAs s s := ⟨h, fun _ => rfl⟩
theorem SameAs.trans {a b c : CS} (h : SameAs a b) (k : SameAs b c) : SameAs a c := ⟨k.clean, fun n => (k.cur n).trans (h.cur n)⟩
theorem uniqF {t : CS} (ok : t.Ok) {f g : Frm} (hf : f ∈ t.frames) (hg : g ∈ t.frames) (e : f.sector = g.sector) : f = g := by
  have hn := ok.nodup
  obtain ⟨i, hi, rfl⟩ := List.getElem_of_mem hf
  obtain ⟨j, hj, rfl⟩ := List.getElem_of_mem hg
  have hij : i = j := by
    have h1 : (t.frames.map Frm.sector)[i]'(by simpa using hi) = (t.frames.map Frm.sector)[j]'(by simpa using hj) := by simpa using e
    exact (List.getElem_inj hn).1 h1
  subst hij; rfl
theorem look_of {t : CS} (ok : t.Ok) {f : Frm} (hf : f ∈ t.frames) : t.look f.sector = some f := by
  cases h : t.look f.sector with
  | none => exact absurd rfl (look_none h f hf)
  | some g =>
    obtain ⟨hg, e⟩ := look_some h
    rw [uniqF ok hg hf e]
/-- looked up alike -/
theorem look_not {t : CS} {n : Int} (h : ∀ f ∈ t.frames, f.sector ≠ n) : t.look n = none := by
  unfold CS.look; rw [List.find?_eq_none]; intro f hf; simpa [Frm.is] using h f hf
theorem cur_of {t : CS} (ok : t.Ok) {f : Frm} (hf : f ∈ t.frames) : t.cur f.sector = f.bytes := by unfold CS.cur; rw [look_of ok hf]
theorem cur_not {t : CS} {n : Int} (h : ∀ f ∈ t.frames, f.sector ≠ n) : t.cur n = t.d.sector n := by unfold CS.cur; rw [look_not h]
theorem sector_wrote {s : DS} (ha : s.stops = false) {n : Int} {l : List Int} (hf : s.fit n l = true) (m : Int) : (s.wrote n l).sector m = if n = m then l else s.sector m := by
  unfold DS.wrote
  rw [hf]
  simp only [if_true, DS.write, DS.alive, ha, Bool.not_false, Bool.true_or]
  unfold DS.sector
  simp only [List.foldl_append, List.foldl_cons, List.foldl_nil, pickP]
  have e : ({ s.tick with writes := wrap64 (s.writes + 1), pending := s.pending ++ [(n, l)] } : DS).base m = s.base m := rfl
  rfl
theorem write1_same {t : CS} (ok : t.Ok) (hc : Clean t) {f : Frm} (hf : f ∈ t.frames) : SameAs t (t.write1 f) := by
  have hfit : t.d.fit f.sector f.bytes = true := fit_iff.2 ⟨(ok.at0 f hf).1, (ok.at0 f hf).2, ok.size f hf⟩
  have hsec : ∀ m, (t.write1 f).d.sector m = if f.sector = m then f.bytes else t.d.sector m := fun m => sector_wrote ok.on hfit m
  have ok1 := write1_Ok ok (ok.at0 f hf) (ok.size f hf)
  have hmem : ∀ g ∈ t.frames, (if Frm.is f.sector g then g.clean else g) ∈ (t.write1 f).frames := fun g hg => List.mem_map.2 ⟨g, hg, rfl⟩
  refine ⟨fun g' hg' hd => ?_, fun n => ?_⟩
  · obtain ⟨g, hg, rfl⟩ := List.mem_map.1 hg'
    rw [hsec]
    by_cases e : Frm.is f.sector g = true
    · have e2 : g.sector = f.sector := by simpa [Frm.is] using e
      have e3 := uniqF ok hg hf e2
      subst e3
      rw [if_pos e]
      show _ = if _ then _ else _
      rw [if_pos (by rfl)]; rfl
    · have e2 : g.sector ≠ f.sector := by simpa [Frm.is] using e
      rw [if_neg e] at hd ⊢
      rw [if_neg (fun e3 => e2 e3.symm)]
      exact hc g hg hd
  · cases hl : t.look n with
    | some g =>
      obtain ⟨hg, rfl⟩ := look_some hl
      have h1 := cur_of ok1 (hmem g hg)
      have h2 : (if Frm.is f.sector g then g.clean else g).sector = g.sector := by split <;> rfl
      have h3 : (if Frm.is f.sector g then g.clean else g).bytes = g.bytes := by split <;> rfl
      rw [h2, h3] at h1
      rw [h1, cur_of ok hg]
    | none =>
      have hn := look_none hl
      rw [cur_not hn, cur_not (fun g' hg' => ?_), hsec, if_neg (hn f hf)]
      obtain ⟨g, hg, rfl⟩ := List.mem_map.1 hg'
      have h2 : (if Frm.is f.sector g then g.clean else g).sector = g.sector := by split <;> rfl
      rw [h2]; exact hn g hg
theorem fold_same : ∀ (L : List Frm) (t : CS), t.Ok → Clean t → (∀ f ∈ L, f ∈ t.frames) → (L.map Frm.sector).Nodup → SameAs t (L.foldl CS.write1 t) ∧ ∀ g ∈ (L.foldl CS.write1 t).frames, ∃ g' ∈ t.frames, g.sector = g'.sector ∧ g.bytes = g'.bytes ∧ ((g' ∈ L ∧ g.dirty = false) ∨ (g' ∉ L ∧ g = g'))
  | [], t, ok, hc, _, _ => ⟨SameAs.refl hc, fun g hg => ⟨g, hg, rfl, rfl, Or.inr ⟨by simp, rfl⟩⟩⟩
  | f :: L, t, ok, hc, hm, hn => by
    have hf := hm f (by simp)
    have ok1 := write1_Ok ok (ok.at0 f hf) (ok.size f hf)
    have h1 := write1_same ok hc hf
    have hn' := List.nodup_cons.1 hn
    have hne : ∀ g ∈ L, g.sector ≠ f.sector := fun g hg e => hn'.1 (by rw [← e]; exact List.mem_map_of_mem hg)
    have hm1 : ∀ g ∈ L, g ∈ (t.write1 f).frames := fun g hg => List.mem_map.2 ⟨g, hm g (by simp [hg]), by rw [if_neg]; simpa [Frm.is] using hne g hg⟩
    obtain ⟨a, b⟩ := fold_same L (t.write1 f) ok1 h1.clean hm1 hn'.2
    refine ⟨h1.trans a, fun g hg => ?_⟩
    obtain ⟨g1, hg1, e1, e2, e3⟩ := b g hg
    obtain ⟨g0, hg0, rfl⟩ := List.mem_map.1 hg1
    refine ⟨g0, hg0, ?_⟩
    by_cases e : Frm.is f.sector g0 = true
    · have e4 : g0 = f := uniqF ok hg0 hf (by simpa [Frm.is] using e)
      rw [if_pos e] at e1 e2 e3
      refine ⟨e1, e2, Or.inl ⟨by rw [e4]; simp, ?_⟩⟩
      rcases e3 with ⟨_, h⟩ | ⟨_, h⟩
      · exact h
      · rw [h]; rfl
    · rw [if_neg e] at e1 e2 e3
      refine ⟨e1, e2, ?_⟩
      rcases e3 with ⟨h, h'⟩ | ⟨h, h'⟩
      · exact Or.inl ⟨by simp [h], h'⟩
      · refine Or.inr ⟨fun hx => ?_, h'⟩
        rcases List.mem_cons.1 hx with hx | hx
        · exact e (by rw [hx]; simp [Frm.is])
        · exact h hx
theorem due_mem {t : CS} {o : Int} {f : Frm} : f ∈ t.due o ↔ f ∈ t.frames ∧ Frm.due o f = true := by unfold CS.due; rw [List.mem_mergeSort, List.mem_filter]
theorem due_nodup {t : CS} (ok : t.Ok) (o : Int) : ((t.due o).map Frm.sector).Nodup := by
  unfold CS.due
  have h1 : ((t.frames.filter (Frm.due o)).map Frm.sector).Nodup := ((List.filter_sublist).map _).nodup ok.nodup
  exact ((List.mergeSort_perm _ _).map _).nodup_iff.2 h1
/-- behind WriteUpTo: what was due is clean, the rest stays -/
theorem upTo_is {t : CS} (ok : t.Ok) (hc : Clean t) (o : Int) : SameAs t (t.upTo o) ∧ ∀ g ∈ (t.upTo o).frames, ∃ g' ∈ t.frames, g.sector = g'.sector ∧ g.bytes = g'.bytes ∧ ((Frm.due o g' = true ∧ g.dirty = false) ∨ (Frm.due o g' = false ∧ g = g')) := by
  obtain ⟨a, b⟩ := fold_same (t.due o) t ok hc (fun f hf => (due_mem.1 hf).1) (due_nodup ok o)
  refine ⟨a, fun g hg => ?_⟩
  obtain ⟨g', hg', e1, e2, e3⟩ := b g hg
  refine ⟨g', hg', e1, e2, ?_⟩
  rcases e3 with ⟨h, h'⟩ | ⟨h, h'⟩
  · exact Or.inl ⟨(due_mem.1 h).2, h'⟩
  · refine Or.inr ⟨?_, h'⟩
    cases hd : Frm.due o g' with
    | false => rfl
    | true => exact absurd (due_mem.2 ⟨hg', hd⟩) h
/-- a clean frame may go -/
theorem del_same {t : CS} (ok : t.Ok) (hc : Clean t) (p : Frm → Bool) (hp : ∀ f ∈ t.frames, p f = false → f.dirty = false) : SameAs t { t with frames := t.frames.filter p } := by
  have ok1 : ({ t with frames := t.frames.filter p } : CS).Ok := Ok.sub ok List.filter_sublist
  refine ⟨fun f hf hd => hc f (List.mem_filter.1 hf).1 hd, fun n => ?_⟩
  cases hl : t.look n with
  | none =>
    have hn := look_none hl
    rw [cur_not hn, cur_not (fun f hf => hn f (List.mem_filter.1 hf).1)]
  | some f =>
    obtain ⟨hf, rfl⟩ := look_some hl
    rw [cur_of ok hf]
    cases hpf : p f with
    | true => exact cur_of ok1 (f := f) (List.mem_filter.2 ⟨hf, hpf⟩)
    | false =>
      rw [cur_not (fun g hg e => ?_), ← hc f hf (hp f hf hpf)]
      obtain ⟨hg1, hg2⟩ := List.mem_filter.1 hg
      rw [uniqF ok hg1 hf e, hpf] at hg2
      cases hg2
theorem counts_same {t : CS} (h : Clean t) (a b c g : Int) : SameAs t { t with hits := a, misses := b, writes := c, gone := g } := ⟨h, fun _ => rfl⟩
theorem made_same {t : CS} (ok : t.Ok) (hc : Clean t) : SameAs t t.made.2 := by
  unfold CS.made
  split
  · exact SameAs.refl hc
  · cases ho : t.old with
    | none => exact SameAs.refl hc
    | some f =>
      have hf : f ∈ t.frames := List.mem_of_find?_eq_some ho
      simp only
      split
      · rename_i hd
        obtain ⟨a, b⟩ := upTo_is ok hc f.order
        have hdel := del_same (upTo_Ok ok f.order).1 a.clean (fun g => !Frm.is f.sector g) (fun g hg e => by
          obtain ⟨g', hg', e1, e2, e3⟩ := b g hg
          have e4 : g.sector = f.sector := by simpa [Frm.is] using e
          have e5 : g' = f := uniqF ok hg' hf (e1.symm.trans e4)
          rcases e3 with ⟨_, h⟩ | ⟨h, _⟩
          · exact h
          · rw [e5] at h; simp [Frm.due, hd] at h)
        exact (a.trans hdel).trans (counts_same hdel.clean _ _ _ _)
      · rename_i hd
        have hdel := del_same ok hc (fun g => !Frm.is f.sector g) (fun g hg e => by
          have e4 : g.sector = f.sector := by simpa [Frm.is] using e
          rw [uniqF ok hg hf e4]
          simpa using hd)
        exact hdel.trans (counts_same hdel.clean _ _ _ _)
theorem Clean.map {t : CS} (hc : Clean t) {fs : List Frm} (hm : ∀ f ∈ fs, ∃ g ∈ t.frames, f.sector = g.sector ∧ f.bytes = g.bytes ∧ f.dirty = g.dirty) : Clean { t with frames := fs } := fun f hf hd => by
  obtain ⟨g, hg, e1, e2, e3⟩ := hm f hf
  show f.bytes = t.d.sector f.sector
  rw [e1, e2]
  exact hc g hg (by rw [← e3]; exact hd)
/-- the frames in another order, or with other pins -/
theorem map_same {t : CS} (ok : t.Ok) (hc : Clean t) {fs : List Frm} (ok2 : ({ t with frames := fs } : CS).Ok) (hm : ∀ f ∈ fs, ∃ g ∈ t.frames, f.sector = g.sector ∧ f.bytes = g.bytes ∧ f.dirty = g.dirty) (hm2 : ∀ g ∈ t.frames, ∃ f ∈ fs, f.sector = g.sector) : SameAs t { t with frames := fs } := by
  refine ⟨hc.map hm, fun n => ?_⟩
  cases hl : t.look n with
  | none =>
    have hn := look_none hl
    rw [cur_not hn, cur_not (fun f hf => ?_)]
    obtain ⟨g, hg, e, _⟩ := hm f hf
    rw [e]; exact hn g hg
  | some g =>
    obtain ⟨hg, rfl⟩ := look_some hl
    obtain ⟨f, hf, e⟩ := hm2 g hg
    obtain ⟨g2, hg2, e1, e2, _⟩ := hm f hf
    have e3 := uniqF ok hg2 hg (e1.symm.trans e)
    have := cur_of ok2 (f := f) hf
    rw [e] at this
    rw [this, cur_of ok hg, e2, e3]
theorem used_same {t : CS} (ok : t.Ok) (hc : Clean t) {f : Frm} (hf : f ∈ t.frames) : SameAs t (t.used f) := by
  refine map_same ok hc (used_Ok ok hf) (fun g hg => ?_) (fun g hg => ?_)
  · rcases List.mem_append.1 hg with hg | hg
    · exact ⟨g, (List.mem_filter.1 hg).1, rfl, rfl, rfl⟩
    · simp at hg; subst hg; exact ⟨g, hf, rfl, rfl, rfl⟩
  · exact rest_stay hf rfl g hg
theorem read_sector (s : DS) (n : Int) : s.read.sector n = s.sector n := rfl
theorem fetch_same {t : CS} (ok : t.Ok) (hc : Clean t) (n : Int) : SameAs t (t.fetch n).2 := by
  unfold CS.fetch
  cases hl : t.look n with
  | some f =>
    have h := used_same ok hc (look_some hl).1
    exact h.trans (counts_same h.clean _ _ _ _)
  | none =>
    simp only
    split
    · rename_i hr
      have ok2 : ({ t with d := t.d.read, misses := wrap64 (t.misses + 1) } : CS).Ok := ⟨read_Ok ok.d, ok.on, ok.room0, ok.room1, ok.len, ok.nodup, ok.at0, ok.size, ok.order⟩
      have hc2 : Clean ({ t with d := t.d.read, misses := wrap64 (t.misses + 1) } : CS) := hc
      have h0 : SameAs t ({ t with d := t.d.read, misses := wrap64 (t.misses + 1) } : CS) := ⟨hc2, fun _ => rfl⟩
      have h1 := made_same ok2 hc2
      have hk := fetch_keeps ok n
      have hm := made_Ok ok2
      split
      · rename_i hz
        have hno : ∀ f ∈ ({ t with d := t.d.read, misses := wrap64 (t.misses + 1) } : CS).made.2.frames, f.sector ≠ n := fun f hf => by
          obtain ⟨g, hg, e⟩ := hm.sub f hf
          rw [e]; exact look_none hl g hg
        have hsec : ({ t with d := t.d.read, misses := wrap64 (t.misses + 1) } : CS).made.2.d.sector n = t.d.sector n := by
          have h2 := h1.cur n
          rw [cur_not hno] at h2
          rw [h2]
          exact cur_not (t := ({ t with d := t.d.read, misses := wrap64 (t.misses + 1) } : CS)) (fun f hf => look_none hl f hf)
        have okA : (({ t with d := t.d.read, misses := wrap64 (t.misses + 1) } : CS).made.2.added ⟨n, 0, false, 0, t.d.sector n⟩).Ok := added_Ok hm.ok (hm.room hz) hno (by rw [hm.count]; exact hr) (by rw [hm.size]; exact sector_len ok.d hr.1 hr.2) ⟨by simp, by simp⟩
        refine (h0.trans h1).trans ⟨fun f hf hd => ?_, fun m => ?_⟩
        · rcases List.mem_append.1 hf with hf | hf
          · exact h1.clean f hf hd
          · simp at hf; subst hf; exact hsec.symm
        · by_cases e : m = n
          · subst e
            have h3 := cur_of okA (f := ⟨m, 0, false, 0, t.d.sector m⟩) (by simp [CS.added])
            rw [h3, cur_not hno, hsec]
          · cases hlm : ({ t with d := t.d.read, misses := wrap64 (t.misses + 1) } : CS).made.2.look m with
            | some f =>
              obtain ⟨hf, rfl⟩ := look_some hlm
              rw [cur_of hm.ok hf]
              exact cur_of okA (f := f) (by simp [CS.added, hf])
            | none =>
              have hn2 := look_none hlm
              rw [cur_not hn2, cur_not (fun f hf => ?_)]
              · rfl
              · rcases List.mem_append.1 hf with hf | hf
                · exact hn2 f hf
                · simp at hf; subst hf; exact fun e2 => e e2.symm
      · exact h0.trans h1
    · exact SameAs.refl hc
theorem pin_same {t : CS} (ok : t.Ok) (hc : Clean t) (n : Int) : SameAs t (t.pin n).2 := by
  have h := fetch_same ok hc n
  have hk := fetch_keeps ok n
  have hkp := pin_keeps ok n
  unfold CS.pin at *
  split
  · rename_i hz
    rw [if_pos hz] at hkp
    generalize (t.fetch n).2 = s at *
    have e0 : s.onLast Frm.pin = { s with frames := (s.onLast Frm.pin).frames } := rfl
    rw [e0] at hkp ⊢
    refine h.trans (map_same hk.ok h.clean hkp.ok (fun f hf => ?_) (fun g hg => ?_))
    · unfold CS.onLast at hf
      rcases List.mem_append.1 hf with hf | hf
      · exact ⟨f, List.dropLast_subset _ hf, rfl, rfl, rfl⟩
      · obtain ⟨g, hg, rfl⟩ := List.mem_map.1 hf
        exact ⟨g, List.mem_of_mem_drop hg, rfl, rfl, rfl⟩
    · have h2 := onLast_map s Frm.pin (fun f => ⟨rfl, rfl, rfl⟩)
      have h3 := List.mem_map_of_mem (f := fun f : Frm => (f.sector, f.bytes, f.order)) hg
      rw [← h2] at h3
      obtain ⟨y, hy, e2⟩ := List.mem_map.1 h3
      simp only [Prod.mk.injEq] at e2
      exact ⟨y, hy, e2.1⟩
  · exact h
theorem unpin_same {t : CS} (ok : t.Ok) (hc : Clean t) (n : Int) : SameAs t (t.unpin n).2 := by
  have hk := unpin_keeps ok n
  unfold CS.unpin at *
  split
  · exact SameAs.refl hc
  · rename_i f hl
    rw [hl] at hk
    simp only at hk
    split
    · exact SameAs.refl hc
    · rename_i hp
      rw [if_neg hp] at hk
      refine map_same ok hc hk.ok (fun f hf => ?_) (fun g hg => ?_)
      · obtain ⟨g, hg, rfl⟩ := List.mem_map.1 hf
        exact ⟨g, hg, by split <;> rfl, by split <;> rfl, by split <;> rfl⟩
      · exact ⟨_, List.mem_map_of_mem hg, by split <;> rfl⟩
/-- what Put makes of it -/
theorem put_same {t : CS} (ok : t.Ok) (hc : Clean t) (n : Int) (l : List Int) (o : Int) (ho : 0 ≤ o ∧ o ≤ 18446744073709551615) :
    ((t.put n l o).1 = 0 → Clean (t.put n l o).2 ∧ (0 ≤ n ∧ n < t.d.count) ∧ ∀ m, (t.put n l o).2.cur m = if m = n then l else t.cur m) ∧ ((t.put n l o).1 ≠ 0 → SameAs t (t.put n l o).2) := by
  have hk := put_keeps ok n l o ho
  unfold CS.put at *
  split
  · rename_i hr
    rw [if_pos hr] at hk
    cases hl : t.look n with
    | some f =>
      rw [hl] at hk
      obtain ⟨hf, hn⟩ := look_some hl
      simp only at hk ⊢
      split
      · exact ⟨fun e => by simp at e, fun _ => SameAs.refl hc⟩
      · rename_i hp
        rw [if_neg hp] at hk
        refine ⟨fun _ => ⟨fun g hg hd => ?_, ⟨hr.1, hr.2.1⟩, fun m => ?_⟩, fun e => absurd rfl e⟩
        · rcases List.mem_append.1 hg with hg | hg
          · exact hc g (List.mem_filter.1 hg).1 hd
          · simp at hg; subst hg; cases hd
        · by_cases e : m = n
          · subst e
            rw [if_pos rfl]
            exact cur_of hk.ok (f := ⟨m, f.pins, true, o, l⟩) (by simp)
          · rw [if_neg e]
            cases hlm : t.look m with
            | some g =>
              obtain ⟨hg, rfl⟩ := look_some hlm
              rw [cur_of ok hg]
              exact cur_of hk.ok (f := g) (List.mem_append_left _ (List.mem_filter.2 ⟨hg, by simpa [Frm.is] using e⟩))
            | none =>
              have hn2 := look_none hlm
              rw [cur_not hn2, cur_not (fun g hg => ?_)]
              rcases List.mem_append.1 hg with hg | hg
              · exact hn2 g (List.mem_filter.1 hg).1
              · simp at hg; subst hg; exact fun e2 => e e2.symm
    | none =>
      rw [hl] at hk
      have h1 := made_same ok hc
      have hm := made_Ok ok
      simp only at hk ⊢
      split
      · rename_i hz
        rw [if_pos hz] at hk
        have hno : ∀ f ∈ t.made.2.frames, f.sector ≠ n := fun f hf => by
          obtain ⟨g, hg, e⟩ := hm.sub f hf
          rw [e]; exact look_none hl g hg
        refine ⟨fun _ => ⟨fun g hg hd => ?_, ⟨hr.1, hr.2.1⟩, fun m => ?_⟩, fun e => absurd rfl e⟩
        · rcases List.mem_append.1 hg with hg | hg
          · exact h1.clean g hg hd
          · simp at hg; subst hg; cases hd
        · by_cases e : m = n
          · subst e
            rw [if_pos rfl]
            exact cur_of hk.ok (f := ⟨m, 0, true, o, l⟩) (by simp [CS.added])
          · rw [if_neg e, ← h1.cur m]
            cases hlm : t.made.2.look m with
            | some g =>
              obtain ⟨hg, rfl⟩ := look_some hlm
              rw [cur_of hm.ok hg]
              exact cur_of hk.ok (f := g) (List.mem_append_left _ hg)
            | none =>
              have hn2 := look_none hlm
              rw [cur_not hn2, cur_not (fun g hg => ?_)]
              · rfl
              · rcases List.mem_append.1 hg with hg | hg
                · exact hn2 g hg
                · simp at hg; subst hg; exact fun e2 => e e2.symm
      · rename_i hz
        exact ⟨fun e => absurd e hz, fun _ => h1⟩
  · exact ⟨fun e => by simp at e, fun _ => SameAs.refl hc⟩
theorem secOf_all {s : DS} (ok : s.Ok) {n : Int} (n0 : 0 ≤ n) (n1 : n < s.count) : ∀ (l : List (Int × List Int)) (pl : List Int), (∀ p ∈ l, p ∈ s.pending) → pl.length = s.platter.length →
    secOf s.size (l.foldl (putP s.size) pl) n = l.foldl (pickP n) (secOf s.size pl n)
  | [], pl, _, _ => rfl
  | p :: l, pl, hm, hl => by
    have hp := hm p (by simp)
    show secOf s.size (l.foldl (putP s.size) (putP s.size pl p)) n = l.foldl (pickP n) (pickP n (secOf s.size pl n) p)
    rw [secOf_all ok n0 n1 l _ (fun q hq => hm q (by simp [hq])) (putP_len ok hp pl hl), secOf_put ok hl hp n0 n1]
    rfl
theorem sector_flush {s : DS} (ok : s.Ok) (ha : s.stops = false) {n : Int} (h0 : 0 ≤ n) (h1 : n < s.count) : s.flush.sector n = s.sector n ∧ s.flush.pending = [] := by
  have hal : s.alive = true := by simp [DS.alive, ha]
  have e : s.flush = { s.tick with platter := s.pending.foldl (putP s.size) s.platter, pending := [], flushes := wrap64 (s.flushes + 1) } := by unfold DS.flush; rw [if_pos hal]
  refine ⟨?_, by rw [e]⟩
  rw [e]
  show secOf s.size (s.pending.foldl (putP s.size) s.platter) n = _
  rw [secOf_all ok h0 h1 s.pending s.platter (fun _ h => h) rfl]
  rfl
theorem sync_same {t : CS} (ok : t.Ok) (hc : Clean t) : Clean t.sync ∧ t.sync.d.pending = [] ∧ ∀ n, 0 ≤ n → n < t.d.count → t.sync.d.sector n = t.cur n := by
  obtain ⟨a, b⟩ := upTo_is ok hc 18446744073709551615
  obtain ⟨ok1, k2, k3, k4⟩ := upTo_Ok ok 18446744073709551615
  have hfl : ∀ n, 0 ≤ n → n < t.d.count → t.sync.d.sector n = (t.upTo 18446744073709551615).d.sector n := fun n h0 h1 => (sector_flush ok1.d ok1.on h0 (by rw [k2]; exact h1)).1
  have hcl : ∀ g ∈ (t.upTo 18446744073709551615).frames, g.bytes = (t.upTo 18446744073709551615).d.sector g.sector := fun g hg => by
    obtain ⟨g', hg', e1, e2, e3⟩ := b g hg
    rcases e3 with ⟨_, h⟩ | ⟨h, e⟩
    · exact a.clean g hg h
    · refine a.clean g hg ?_
      rw [e]
      have := ok.order g' hg'
      simp only [Frm.due, Bool.and_eq_false_iff, decide_eq_false_iff_not] at h
      rcases h with h | h
      · exact h
      · omega
  have hr : ∀ g ∈ (t.upTo 18446744073709551615).frames, 0 ≤ g.sector ∧ g.sector < t.d.count := fun g hg => by have := ok1.at0 g hg; rw [k2] at this; exact this
  have hcur : ∀ n, t.sync.cur n = match (t.upTo 18446744073709551615).look n with | some f => f.bytes | none => t.sync.d.sector n := fun n => rfl
  have hsec : ∀ n, 0 ≤ n → n < t.d.count → t.sync.d.sector n = t.cur n := fun n h0 h1 => by
    rw [hfl n h0 h1, ← a.cur n]
    unfold CS.cur
    cases hl : (t.upTo 18446744073709551615).look n with
    | none => rfl
    | some f =>
      obtain ⟨hf, rfl⟩ := look_some hl
      exact (hcl f hf).symm
  refine ⟨fun g hg hd => ?_, ?_, hsec⟩
  · have hg' : g ∈ (t.upTo 18446744073709551615).frames := hg
    obtain ⟨h0, h1⟩ := hr g hg'
    rw [hfl _ h0 h1]; exact hcl g hg'
  · have hal : (t.upTo 18446744073709551615).d.alive = true := by simp [DS.alive, ok1.on]
    show ((t.upTo 18446744073709551615).d.flush).pending = []
    unfold DS.flush; rw [if_pos hal]
theorem sync_cur {t : CS} (ok : t.Ok) (hc : Clean t) (n : Int) (h0 : 0 ≤ n) (h1 : n < t.d.count) : t.sync.cur n = t.cur n := by
  obtain ⟨a, _⟩ := upTo_is ok hc 18446744073709551615
  have hs := (sync_same ok hc).2.2 n h0 h1
  have e : t.sync.cur n = match (t.upTo 18446744073709551615).look n with | some f => f.bytes | none => t.sync.d.sector n := rfl
  rw [e]
  cases hl : (t.upTo 18446744073709551615).look n with
  | none => exact hs
  | some f =>
    have h2 := a.cur n
    unfold CS.cur at h2
    rw [hl] at h2
    exact h2
/-- the law's own list of what was put last -/
structure SameT (t : CS) (sn sz : Nat) (now : List Int) : Prop where
  clean : Clean t
  len : now.length = sn
  count : t.d.count = sn
  byte : ∀ x ∈ now, 0 ≤ x ∧ x < 256
  cur : ∀ n (h : n < now.length), t.cur n = List.replicate sz now[n]
theorem SameT.as {s t : CS} {sn sz : Nat} {now : List Int} (h : SameT s sn sz now) (q : Keeps s t) (k : SameAs s t) : SameT t sn sz now :=
  ⟨k.clean, h.len, q.count.trans h.count, h.byte, fun n hn => (k.cur n).trans (h.cur n hn)⟩
theorem SameT.sync {s : CS} {sn sz : Nat} {now : List Int} (h : SameT s sn sz now) (ok : s.Ok) : SameT s.sync sn sz now :=
  ⟨(sync_same ok h.clean).1, h.len, (sync_keeps ok).count.trans h.count, h.byte, fun n hn => (sync_cur ok h.clean n (by omega) (by have := h.count; have := h.len; omega)).trans (h.cur n hn)⟩
theorem SameT.put {s : CS} {sn sz : Nat} {now : List Int} (h : SameT s sn sz now) (ok : s.Ok) {n : Int} {f o : Int} (ho : 0 ≤ o ∧ o ≤ 18446744073709551615) (hf : 0 ≤ f ∧ f < 256) (hz : (s.put n (List.replicate sz f) o).1 = 0) :
    (0 ≤ n ∧ n < sn) ∧ SameT (s.put n (List.replicate sz f) o).2 sn sz (now.set n.toNat f) := by
  obtain ⟨h1, h2, h3⟩ := (put_same ok h.clean n (List.replicate sz f) o ho).1 hz
  have hc := h.count
  have hl := h.len
  refine ⟨⟨h2.1, by omega⟩, h1, by simpa using hl, (put_keeps ok n _ o ho).count.trans hc, fun x hx => ?_, fun m hm => ?_⟩
  · rcases List.mem_or_eq_of_mem_set hx with hx | hx
    · exact h.byte x hx
    · subst hx; exact hf
  · rw [h3 m, List.getElem_set]
    by_cases e : n.toNat = m
    · rw [if_pos (by omega), if_pos e]
    · rw [if_neg (by omega), if_neg e]
      exact h.cur m (by simpa using hm)
theorem sameT_new {size count room : Nat} (h : fitsD size count = true) : SameT (CS.new (DS.new size count) room) count size (List.replicate count 0) := by
  obtain ⟨a0, a1, a2, a3⟩ := fits_bounds h
  refine ⟨fun f hf => by simp [CS.new] at hf, by simp, rfl, fun x hx => by rw [(List.mem_replicate.1 hx).2]; omega, fun n hn => ?_⟩
  have hn' : n < count := by simpa using hn
  have h1 := base_len (new_Ok h) (n := (n : Int)) (by omega) (by show (n : Int) < (count : Int); omega)
  have e1 : (CS.new (DS.new size count) room).cur n = (DS.new size count).base n := rfl
  rw [e1]
  refine List.eq_replicate_iff.2 ⟨by rw [h1]; simp [DS.new], fun x hx => ?_⟩
  have hx2 : x ∈ zeros ((size : Int) * count).toNat := List.mem_of_mem_drop (List.mem_of_mem_take hx)
  simp [zeros] at hx2
  simp [hx2.2]
theorem fetch_bytes {t : CS} (ok : t.Ok) (n : Int) (h : (t.fetch n).1 = 0) : (t.fetch n).2.lastBytes = t.cur n ∧ 0 ≤ n ∧ n < t.d.count := by
  unfold CS.fetch CS.cur at *
  cases hl : t.look n with
  | some f =>
    obtain ⟨hf, rfl⟩ := look_some hl
    exact ⟨by simp [CS.lastBytes, CS.used], ok.at0 f hf⟩
  | none =>
    rw [hl] at h
    simp only at h ⊢
    split
    · rename_i hr
      rw [if_pos hr] at h
      split
      · exact ⟨by simp [CS.lastBytes, CS.added], hr⟩
      · rename_i hz
        rw [if_neg hz] at h
        exact absurd h hz
    · rename_i hr
      rw [if_neg hr] at h
      cases h
theorem drop_same {t : CS} (ok : t.Ok) (hc : Clean t) : SameAs t t.drop := del_same ok hc Frm.stays (fun f hf h => by simp [Frm.stays] at h; exact h.1)
end Go.Proofs.Ytjjgihaikcnjgaa
