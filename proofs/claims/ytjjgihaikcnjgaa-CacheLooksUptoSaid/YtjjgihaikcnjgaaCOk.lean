/-
  What holds of a cache goes on to hold: plain.
-/
import Derived.Test.YtjjgihaikcnjgaaCFold
namespace Go.Proofs.Ytjjgihaikcnjgaa
open Go.RowKit Go.Maps
set_option linter.unusedSimpArgs false
set_option linter.unusedVariables false
set_option maxRecDepth 100000

theorem fold_write_same : ∀ (L : List Frm) (s : CS), (L.foldl CS.write1 s).room = s.room ∧ (L.foldl CS.write1 s).gone = s.gone ∧ (L.foldl CS.write1 s).hits = s.hits ∧ (L.foldl CS.write1 s).misses = s.misses ∧ (L.foldl CS.write1 s).frames.map (fun f => (f.sector, f.pins, f.bytes)) = s.frames.map (fun f => (f.sector, f.pins, f.bytes))
  | [], s => ⟨rfl, rfl, rfl, rfl, rfl⟩
  | f :: L, s => by
    obtain ⟨a, b, c, d, e⟩ := fold_write_same L (s.write1 f)
    refine ⟨a, b, c, d, e.trans ?_⟩
    simp only [CS.write1, List.map_map]
    refine List.map_congr_left (fun x _ => ?_)
    simp only [Function.comp]; split <;> rfl
theorem upTo_same (s : CS) (o : Int) : (s.upTo o).room = s.room ∧ (s.upTo o).gone = s.gone ∧ (s.upTo o).hits = s.hits ∧ (s.upTo o).misses = s.misses ∧ (s.upTo o).frames.map (fun f => (f.sector, f.pins, f.bytes)) = s.frames.map (fun f => (f.sector, f.pins, f.bytes)) := fold_write_same _ _
theorem upTo_len (s : CS) (o : Int) : (s.upTo o).frames.length = s.frames.length := by simpa using congrArg List.length (upTo_same s o).2.2.2.2
theorem upTo_sectors (s : CS) (o : Int) : (s.upTo o).frames.map Frm.sector = s.frames.map Frm.sector := by
  have h := congrArg (List.map Prod.fst) (upTo_same s o).2.2.2.2
  rw [List.map_map, List.map_map] at h
  exact h
theorem upTo_Ok {s : CS} (ok : s.Ok) (o : Int) : (s.upTo o).Ok ∧ (s.upTo o).d.count = s.d.count ∧ (s.upTo o).d.size = s.d.size ∧ (s.upTo o).d.pending.length ≤ s.d.pending.length + 4096 := by
  have hns : (s.frames.map (fun f => ((0 : Nat), f))).map Prod.snd = s.frames := by rw [List.map_map]; exact List.map_id _
  have h := foldS_Ok (dueN (s.frames.map (fun f => ((0 : Nat), f))) o) s ok (fun y hy => by
    have hm : y.2 ∈ s.frames := by rw [← hns]; exact List.mem_map_of_mem (dueN_mem.1 hy).1
    exact ⟨ok.at0 _ hm, ok.size _ hm⟩)
  rw [upTo_foldS hns] at h
  obtain ⟨a, b, c, d⟩ := h
  refine ⟨a, b, c, Nat.le_trans d (Nat.add_le_add_left ?_ _)⟩
  unfold dueN
  rw [List.length_mergeSort]
  refine Nat.le_trans (List.length_filter_le _ _) ?_
  have := ok.len
  have := ok.room1
  simp; omega
theorem Ok.sub {s : CS} (ok : s.Ok) {fs : List Frm} (h : fs.Sublist s.frames) : ({ s with frames := fs } : CS).Ok :=
  ⟨ok.d, ok.on, ok.room0, ok.room1, by have := ok.len; have := h.length_le; simp only; omega, (h.map Frm.sector).nodup ok.nodup, fun f hf => ok.at0 f (h.subset hf), fun f hf => ok.size f (h.subset hf), fun f hf => ok.order f (h.subset hf)⟩
theorem drop1_Ok {s : CS} (ok : s.Ok) (n : Int) : (s.drop1 n).Ok := Ok.sub ok List.filter_sublist
theorem gone_Ok {s : CS} (ok : s.Ok) (g : Int) : ({ s with gone := g } : CS).Ok := ⟨ok.d, ok.on, ok.room0, ok.room1, ok.len, ok.nodup, ok.at0, ok.size, ok.order⟩
/-- what room leaves -/
structure MadeOk (s t : CS) (e : Int) : Prop where
  ok : t.Ok
  count : t.d.count = s.d.count
  size : t.d.size = s.d.size
  pend : t.d.pending.length ≤ s.d.pending.length + 4096
  sub : ∀ f ∈ t.frames, ∃ g ∈ s.frames, f.sector = g.sector
  room : e = 0 → (t.frames.length : Int) < t.room
  same : t.room = s.room
theorem made_Ok {s : CS} (ok : s.Ok) : MadeOk s s.made.2 s.made.1 := by
  unfold CS.made
  split
  · rename_i h
    exact ⟨ok, rfl, rfl, Nat.le_add_right _ _, fun f hf => ⟨f, hf, rfl⟩, fun _ => h, rfl⟩
  · rename_i hge
    cases ho : s.old with
    | none => exact ⟨ok, rfl, rfl, by simp, fun f hf => ⟨f, hf, rfl⟩, fun e => by simp at e, rfl⟩
    | some f =>
      have hf : f ∈ s.frames := List.mem_of_find?_eq_some ho
      have hlen := ok.len
      obtain ⟨k1, k2, k3, k4⟩ := upTo_Ok ok f.order
      have hrest : ∀ t : CS, t.frames.map Frm.sector = s.frames.map Frm.sector → (t.rest f.sector).length < s.frames.length := fun t ht => by
        have e1 : t.frames.length = s.frames.length := by simpa using congrArg List.length ht
        rw [← e1]
        unfold CS.rest
        have hm : f.sector ∈ t.frames.map Frm.sector := by rw [ht]; exact List.mem_map_of_mem hf
        obtain ⟨g, hg, eg⟩ := List.mem_map.1 hm
        exact List.length_filter_lt_length_iff_exists.2 ⟨g, hg, by simp [Frm.is, eg]⟩
      have hsub : ∀ t : CS, t.frames.map Frm.sector = s.frames.map Frm.sector → ∀ g ∈ t.rest f.sector, ∃ g' ∈ s.frames, g.sector = g'.sector := fun t ht g hg => by
        have : g.sector ∈ s.frames.map Frm.sector := by rw [← ht]; exact List.mem_map_of_mem ((List.mem_filter.1 hg).1)
        obtain ⟨g', h1, h2⟩ := List.mem_map.1 this
        exact ⟨g', h1, h2.symm⟩
      simp only
      split
      · refine ⟨gone_Ok (drop1_Ok k1 _) _, k2, k3, k4, hsub _ (upTo_sectors _ _), fun _ => ?_, (upTo_same s f.order).1⟩
        have := hrest _ (upTo_sectors s f.order)
        have e2 : (s.upTo f.order).room = s.room := (upTo_same s f.order).1
        show (((s.upTo f.order).rest f.sector).length : Int) < (s.upTo f.order).room
        omega
      · refine ⟨gone_Ok (drop1_Ok ok _) _, rfl, rfl, by simp [CS.drop1], hsub _ rfl, fun _ => ?_, rfl⟩
        have := hrest s rfl
        show ((s.rest f.sector).length : Int) < s.room
        omega
theorem look_some {s : CS} {n : Int} {f : Frm} (h : s.look n = some f) : f ∈ s.frames ∧ f.sector = n := ⟨List.mem_of_find?_eq_some h, by simpa [CS.look, Frm.is] using List.find?_some h⟩
theorem look_none {s : CS} {n : Int} (h : s.look n = none) : ∀ f ∈ s.frames, f.sector ≠ n := by
  unfold CS.look at h
  rw [List.find?_eq_none] at h
  exact fun f hf => by simpa [Frm.is] using h f hf
theorem rest_len {s : CS} (ok : s.Ok) {f : Frm} (hf : f ∈ s.frames) : (s.rest f.sector).length + 1 ≤ s.frames.length := by
  have : (s.rest f.sector).length < s.frames.length := List.length_filter_lt_length_iff_exists.2 ⟨f, hf, by simp [Frm.is]⟩
  omega
theorem rest_nodup {s : CS} (ok : s.Ok) {g : Frm} : ((s.rest g.sector ++ [g]).map Frm.sector).Nodup := by
  rw [List.map_append, List.nodup_append]
  refine ⟨((List.filter_sublist).map Frm.sector).nodup ok.nodup, by simp, fun a ha b hb e => ?_⟩
  obtain ⟨f, hf, rfl⟩ := List.mem_map.1 ha
  simp at hb
  have := (List.mem_filter.1 hf).2
  simp [Frm.is] at this
  exact this (e.trans hb)
/-- a frame in the place of the one of its sector, at the end -/
theorem put_Ok {s : CS} (ok : s.Ok) {f g : Frm} (hf : f ∈ s.frames) (hs : g.sector = f.sector) (hz : (g.bytes.length : Int) = s.d.size) (ho : 0 ≤ g.order ∧ g.order ≤ 18446744073709551615) : ({ s with frames := s.rest f.sector ++ [g] } : CS).Ok := by
  have h1 := rest_len ok hf
  have h2 := ok.len
  have h3 := rest_nodup ok (g := g)
  rw [hs] at h3
  refine ⟨ok.d, ok.on, ok.room0, ok.room1, by simp; omega, h3, fun x hx => ?_, fun x hx => ?_, fun x hx => ?_⟩
  · rcases List.mem_append.1 hx with hx | hx
    · exact ok.at0 x ((List.mem_filter.1 hx).1)
    · simp at hx; subst hx; rw [hs]; exact ok.at0 f hf
  · rcases List.mem_append.1 hx with hx | hx
    · exact ok.size x ((List.mem_filter.1 hx).1)
    · simp at hx; subst hx; exact hz
  · rcases List.mem_append.1 hx with hx | hx
    · exact ok.order x ((List.mem_filter.1 hx).1)
    · simp at hx; subst hx; exact ho
theorem used_Ok {s : CS} (ok : s.Ok) {f : Frm} (hf : f ∈ s.frames) : (s.used f).Ok := put_Ok ok hf rfl (ok.size f hf) (ok.order f hf)
theorem added_Ok {s : CS} (ok : s.Ok) {g : Frm} (hr : (s.frames.length : Int) < s.room) (hn : ∀ f ∈ s.frames, f.sector ≠ g.sector) (h0 : 0 ≤ g.sector ∧ g.sector < s.d.count) (hz : (g.bytes.length : Int) = s.d.size) (ho : 0 ≤ g.order ∧ g.order ≤ 18446744073709551615) : (s.added g).Ok := by
  refine ⟨ok.d, ok.on, ok.room0, ok.room1, by simp [CS.added]; omega, ?_, fun x hx => ?_, fun x hx => ?_, fun x hx => ?_⟩
  · unfold CS.added
    rw [List.map_append, List.nodup_append]
    refine ⟨ok.nodup, by simp, fun a ha b hb e => ?_⟩
    obtain ⟨f, hf, rfl⟩ := List.mem_map.1 ha
    simp at hb
    exact hn f hf (e.trans hb)
  · rcases List.mem_append.1 hx with hx | hx
    · exact ok.at0 x hx
    · simp at hx; subst hx; exact h0
  · rcases List.mem_append.1 hx with hx | hx
    · exact ok.size x hx
    · simp at hx; subst hx; exact hz
  · rcases List.mem_append.1 hx with hx | hx
    · exact ok.order x hx
    · simp at hx; subst hx; exact ho
end Go.Proofs.Ytjjgihaikcnjgaa
