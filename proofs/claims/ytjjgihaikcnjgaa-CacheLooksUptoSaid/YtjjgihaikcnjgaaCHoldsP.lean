/-
  CacheHolds as plain data: what is pinned stays.
-/
import Derived.Test.YtjjgihaikcnjgaaCOps
namespace Go.Proofs.Ytjjgihaikcnjgaa
open Go.RowKit Go.Maps
set_option linter.unusedSimpArgs false
set_option linter.unusedVariables false
set_option maxRecDepth 100000

/-- a call of a script -/
structure OpC where
  kind : Int
  sector : Int
  fill : Int
  short : Int
  order : Int
structure OpC.Fine (o : OpC) : Prop where
  sector : -9223372036854775808 ≤ o.sector ∧ o.sector ≤ 9223372036854775807
  fill : 0 ≤ o.fill ∧ o.fill < 256
  short : -9223372036854775808 ≤ o.short ∧ o.short ≤ 9223372036854775807
  order : 0 ≤ o.order ∧ o.order ≤ 18446744073709551615
def PinsStay (s t : CS) : Prop := ∀ f ∈ s.frames, f.pins ≠ 0 → ∃ g ∈ t.frames, g.sector = f.sector
theorem PinsStay.refl (s : CS) : PinsStay s s := fun f hf _ => ⟨f, hf, rfl⟩
theorem stay_of_sectors {s t : CS} (h : s.frames.map Frm.sector = t.frames.map Frm.sector) : PinsStay s t := fun f hf _ => by
  have := List.mem_map_of_mem (f := Frm.sector) hf
  rw [h] at this
  obtain ⟨g, hg, e⟩ := List.mem_map.1 this
  exact ⟨g, hg, e⟩
theorem made_stay {s : CS} (ok : s.Ok) : PinsStay s s.made.2 := by
  unfold CS.made
  split
  · exact PinsStay.refl s
  · cases ho : s.old with
    | none => exact PinsStay.refl s
    | some f =>
      have hf0 : f.pins = 0 := by have := List.find?_some ho; simpa using this
      have hf := List.mem_of_find?_eq_some ho
      have key : ∀ t : CS, s.frames.map (fun f => (f.sector, f.pins)) = t.frames.map (fun f => (f.sector, f.pins)) → ∀ x ∈ s.frames, x.pins ≠ 0 → ∃ g ∈ t.rest f.sector, g.sector = x.sector := fun t ht x hx hp => by
        have := List.mem_map_of_mem (f := fun f : Frm => (f.sector, f.pins)) hx
        rw [ht] at this
        obtain ⟨g, hg, e⟩ := List.mem_map.1 this
        simp only [Prod.mk.injEq] at e
        refine ⟨g, List.mem_filter.2 ⟨hg, ?_⟩, e.1⟩
        simp only [Frm.is, Bool.not_eq_true', beq_eq_false_iff_ne, ne_eq]
        intro e2
        have : x.sector = f.sector := by rw [← e.1, e2]
        have hxf : x = f := by
          have hn := ok.nodup
          obtain ⟨i, hi, rfl⟩ := List.getElem_of_mem hx
          obtain ⟨j, hj, rfl⟩ := List.getElem_of_mem hf
          have hij : i = j := by
            have h1 : (s.frames.map Frm.sector)[i]'(by simpa using hi) = (s.frames.map Frm.sector)[j]'(by simpa using hj) := by simpa using this
            exact (List.getElem_inj hn).1 h1
          subst hij; rfl
        exact hp (by rw [hxf]; exact hf0)
      simp only
      split
      · intro x hx hp
        refine key (s.upTo f.order) ?_ x hx hp
        have h := (upTo_same s f.order).2.2.2.2
        have h2 := congrArg (List.map (fun p : Int × Int × List Int => (p.1, p.2.1))) h
        rw [List.map_map, List.map_map] at h2
        exact h2.symm
      · exact fun x hx hp => key s rfl x hx hp
theorem rest_stay {s : CS} {f g : Frm} (hf : f ∈ s.frames) (hs : g.sector = f.sector) : ∀ x ∈ s.frames, ∃ y ∈ s.rest f.sector ++ [g], y.sector = x.sector := fun x hx => by
  by_cases e : x.sector = f.sector
  · exact ⟨g, by simp, by rw [hs, e]⟩
  · exact ⟨x, List.mem_append_left _ (List.mem_filter.2 ⟨hx, by simpa [Frm.is] using e⟩), rfl⟩
theorem fetch_stay {s : CS} (ok : s.Ok) (n : Int) : PinsStay s (s.fetch n).2 := by
  unfold CS.fetch
  cases hl : s.look n with
  | some f => exact fun x hx _ => rest_stay (look_some hl).1 rfl x hx
  | none =>
    simp only
    split
    · have ok2 : ({ s with d := s.d.read, misses := wrap64 (s.misses + 1) } : CS).Ok := ⟨read_Ok ok.d, ok.on, ok.room0, ok.room1, ok.len, ok.nodup, ok.at0, ok.size, ok.order⟩
      have h := made_stay ok2
      split
      · intro x hx hp
        obtain ⟨g, hg, e⟩ := h x hx hp
        exact ⟨g, List.mem_append_left _ hg, e⟩
      · exact h
    · exact PinsStay.refl s
theorem pin_stay {s : CS} (ok : s.Ok) (n : Int) : PinsStay s (s.pin n).2 := by
  have h := fetch_stay ok n
  unfold CS.pin
  split
  · intro x hx hp
    obtain ⟨g, hg, e⟩ := h x hx hp
    have h2 := onLast_map (s.fetch n).2 Frm.pin (fun f => ⟨rfl, rfl, rfl⟩)
    have h3 := List.mem_map_of_mem (f := fun f : Frm => (f.sector, f.bytes, f.order)) hg
    rw [← h2] at h3
    obtain ⟨y, hy, e2⟩ := List.mem_map.1 h3
    simp only [Prod.mk.injEq] at e2
    exact ⟨y, hy, e2.1.trans e⟩
  · exact h
theorem unpin_stay {s : CS} (n : Int) : PinsStay s (s.unpin n).2 := by
  unfold CS.unpin
  split
  · exact PinsStay.refl s
  · split
    · exact PinsStay.refl s
    · refine stay_of_sectors ?_
      rw [List.map_map]
      refine List.map_congr_left (fun x _ => ?_)
      simp only [Function.comp]; split <;> rfl
theorem put_stay {s : CS} (ok : s.Ok) (n : Int) (l : List Int) (o : Int) : PinsStay s (s.put n l o).2 := by
  unfold CS.put
  split
  · cases hl : s.look n with
    | some f =>
      simp only
      split
      · exact PinsStay.refl s
      · obtain ⟨hf, hn⟩ := look_some hl
        intro x hx _
        have := rest_stay (g := ⟨n, f.pins, true, o, l⟩) hf hn.symm x hx
        rwa [hn] at this
    | none =>
      simp only
      have h := made_stay ok
      split
      · intro x hx hp
        obtain ⟨g, hg, e⟩ := h x hx hp
        exact ⟨g, List.mem_append_left _ hg, e⟩
      · exact h
  · exact PinsStay.refl s
theorem drop_stay (s : CS) : PinsStay s s.drop := fun f hf hp => ⟨f, List.mem_filter.2 ⟨hf, by simp [Frm.stays, hp]⟩, rfl⟩
end Go.Proofs.Ytjjgihaikcnjgaa
