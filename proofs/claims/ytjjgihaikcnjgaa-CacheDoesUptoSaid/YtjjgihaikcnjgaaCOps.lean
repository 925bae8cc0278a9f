/-
  What the calls leave of what holds of a cache: plain.
-/
import Derived.Test.YtjjgihaikcnjgaaCOk
import Derived.Test.YtjjgihaikcnjgaaDRef5
namespace Go.Proofs.Ytjjgihaikcnjgaa
open Go.RowKit Go.Maps
set_option linter.unusedSimpArgs false
set_option linter.unusedVariables false
set_option maxRecDepth 100000

structure Keeps (s t : CS) : Prop where
  ok : t.Ok
  count : t.d.count = s.d.count
  size : t.d.size = s.d.size
  room : t.room = s.room
  pend : t.d.pending.length ≤ s.d.pending.length + 4096
theorem Keeps.refl {s : CS} (ok : s.Ok) : Keeps s s := ⟨ok, rfl, rfl, rfl, Nat.le_add_right _ _⟩
theorem hits_Ok {s : CS} (ok : s.Ok) (h m wr g : Int) : ({ s with hits := h, misses := m, writes := wr, gone := g } : CS).Ok := ⟨ok.d, ok.on, ok.room0, ok.room1, ok.len, ok.nodup, ok.at0, ok.size, ok.order⟩
theorem sector_len {s : DS} (ok : s.Ok) {n : Int} (h0 : 0 ≤ n) (h1 : n < s.count) : ((s.sector n).length : Int) = s.size := by
  have h := pick_len ok h0 h1 s.pending (fun _ h => h) (s.base n) (base_len ok h0 h1)
  unfold DS.sector
  rw [h]
  have := ok.size0
  omega
theorem fetch_keeps {s : CS} (ok : s.Ok) (n : Int) : Keeps s (s.fetch n).2 := by
  unfold CS.fetch
  cases hl : s.look n with
  | some f =>
    obtain ⟨hf, _⟩ := look_some hl
    have h := used_Ok ok hf
    exact ⟨hits_Ok h _ _ _ _, rfl, rfl, rfl, Nat.le_add_right _ _⟩
  | none =>
    simp only
    split
    · rename_i hr
      have ok2 : ({ s with d := s.d.read, misses := wrap64 (s.misses + 1) } : CS).Ok := ⟨read_Ok ok.d, ok.on, ok.room0, ok.room1, ok.len, ok.nodup, ok.at0, ok.size, ok.order⟩
      have hm := made_Ok ok2
      split
      · rename_i hz
        refine ⟨added_Ok hm.ok (hm.room hz) (fun f hf => ?_) (by rw [hm.count]; exact hr) (by rw [hm.size]; exact sector_len ok.d hr.1 hr.2) ⟨by simp, by simp⟩, hm.count, hm.size, hm.same, hm.pend⟩
        obtain ⟨g, hg, e⟩ := hm.sub f hf
        rw [e]; exact look_none hl g hg
      · exact ⟨hm.ok, hm.count, hm.size, hm.same, hm.pend⟩
    · exact Keeps.refl ok
theorem map_Ok {s : CS} (ok : s.Ok) {fs : List Frm} (hl : fs.map (fun f => (f.sector, f.bytes, f.order)) = s.frames.map (fun f => (f.sector, f.bytes, f.order))) : ({ s with frames := fs } : CS).Ok := by
  have hlen : fs.length = s.frames.length := by simpa using congrArg List.length hl
  have hm : ∀ f ∈ fs, ∃ g ∈ s.frames, f.sector = g.sector ∧ f.bytes = g.bytes ∧ f.order = g.order := fun f hf => by
    have := List.mem_map_of_mem (f := fun f : Frm => (f.sector, f.bytes, f.order)) hf
    rw [hl] at this
    obtain ⟨g, hg, e⟩ := List.mem_map.1 this
    simp only [Prod.mk.injEq] at e
    exact ⟨g, hg, e.1.symm, e.2.1.symm, e.2.2.symm⟩
  refine ⟨ok.d, ok.on, ok.room0, ok.room1, by rw [hlen]; exact ok.len, ?_, fun f hf => ?_, fun f hf => ?_, fun f hf => ?_⟩
  · have := congrArg (List.map Prod.fst) hl
    rw [List.map_map, List.map_map] at this
    have e : fs.map Frm.sector = s.frames.map Frm.sector := this
    rw [e]; exact ok.nodup
  · obtain ⟨g, hg, e, _⟩ := hm f hf; rw [e]; exact ok.at0 g hg
  · obtain ⟨g, hg, _, e, _⟩ := hm f hf; rw [e]; exact ok.size g hg
  · obtain ⟨g, hg, _, _, e⟩ := hm f hf; rw [e]; exact ok.order g hg
theorem onLast_map (s : CS) (g : Frm → Frm) (hg : ∀ f, (g f).sector = f.sector ∧ (g f).bytes = f.bytes ∧ (g f).order = f.order) : (s.onLast g).frames.map (fun f => (f.sector, f.bytes, f.order)) = s.frames.map (fun f => (f.sector, f.bytes, f.order)) := by
  have e : ∀ l : List Frm, (l.map g).map (fun f => (f.sector, f.bytes, f.order)) = l.map (fun f => (f.sector, f.bytes, f.order)) := fun l => by
    rw [List.map_map]
    refine List.map_congr_left (fun x _ => ?_)
    obtain ⟨a, b, c⟩ := hg x
    simp [a, b, c]
  unfold CS.onLast
  rw [List.map_append, e, ← List.map_append]
  congr 1
  rw [List.dropLast_eq_take, List.take_append_drop]
theorem pin_keeps {s : CS} (ok : s.Ok) (n : Int) : Keeps s (s.pin n).2 := by
  have h := fetch_keeps ok n
  unfold CS.pin
  split
  · exact ⟨map_Ok h.ok (onLast_map _ _ (fun f => ⟨rfl, rfl, rfl⟩)), h.count, h.size, h.room, h.pend⟩
  · exact h
theorem unpin_keeps {s : CS} (ok : s.Ok) (n : Int) : Keeps s (s.unpin n).2 := by
  unfold CS.unpin
  split
  · exact Keeps.refl ok
  · split
    · exact Keeps.refl ok
    · refine ⟨map_Ok ok ?_, rfl, rfl, rfl, Nat.le_add_right _ _⟩
      rw [List.map_map]
      refine List.map_congr_left (fun x _ => ?_)
      simp only [Function.comp]; split <;> rfl
theorem put_keeps {s : CS} (ok : s.Ok) (n : Int) (l : List Int) (o : Int) (ho : 0 ≤ o ∧ o ≤ 18446744073709551615) : Keeps s (s.put n l o).2 := by
  unfold CS.put
  split
  · rename_i hr
    cases hl : s.look n with
    | some f =>
      obtain ⟨hf, hn⟩ := look_some hl
      simp only
      split
      · exact Keeps.refl ok
      · have h := put_Ok ok (g := ⟨n, f.pins, true, o, l⟩) hf hn.symm hr.2.2 ho
        rw [hn] at h
        exact ⟨h, rfl, rfl, rfl, Nat.le_add_right _ _⟩
    | none =>
      have hm := made_Ok ok
      simp only
      split
      · rename_i hz
        refine ⟨added_Ok hm.ok (hm.room hz) (fun f hf => ?_) (by rw [hm.count]; exact ⟨hr.1, hr.2.1⟩) (by rw [hm.size]; exact hr.2.2) ho, hm.count, hm.size, hm.same, hm.pend⟩
        obtain ⟨g, hg, e⟩ := hm.sub f hf
        rw [e]; exact look_none hl g hg
      · exact ⟨hm.ok, hm.count, hm.size, hm.same, hm.pend⟩
  · exact Keeps.refl ok
theorem upTo_keeps {s : CS} (ok : s.Ok) (o : Int) : Keeps s (s.upTo o) := by
  obtain ⟨a, b, c, d⟩ := upTo_Ok ok o
  exact ⟨a, b, c, (upTo_same s o).1, d⟩
theorem sync_keeps {s : CS} (ok : s.Ok) : Keeps s s.sync := by
  have h := upTo_keeps ok 18446744073709551615
  unfold CS.sync
  refine ⟨⟨flush_Ok h.ok.d, by show (DS.flush _).stops = _; rw [flush_stops]; exact h.ok.on, h.ok.room0, h.ok.room1, h.ok.len, h.ok.nodup, fun f hf => ?_, fun f hf => ?_, h.ok.order⟩, ?_, ?_, h.room, ?_⟩
  · show _ ∧ _ < (DS.flush _).count; rw [flush_count]; exact h.ok.at0 f hf
  · show _ = (DS.flush _).size; rw [flush_size]; exact h.ok.size f hf
  · show (DS.flush _).count = _; rw [flush_count]; exact h.count
  · show (DS.flush _).size = _; rw [flush_size]; exact h.size
  · exact Nat.le_trans (flush_pend _) h.pend
theorem drop_keeps {s : CS} (ok : s.Ok) : Keeps s s.drop := ⟨Ok.sub ok List.filter_sublist, rfl, rfl, rfl, Nat.le_add_right _ _⟩
theorem newS_Ok {size count room : Int} (h : fitsD size count = true) (hr : 1 ≤ room ∧ room ≤ 4096) : (CS.new (DS.new size count) room).Ok :=
  ⟨new_Ok h, rfl, hr.1, hr.2, by show ((0 : Nat) : Int) ≤ room; omega, by simp [CS.new], fun f hf => by simp [CS.new] at hf, fun f hf => by simp [CS.new] at hf, fun f hf => by simp [CS.new] at hf⟩
end Go.Proofs.Ytjjgihaikcnjgaa
