/-
  A script's step as plain data, and what goes on to hold.
-/
import Derived.Test.YtjjgihaikcnjgaaCHoldsP
import Derived.Test.YtjjgihaikcnjgaaCLaw1
namespace Go.Proofs.Ytjjgihaikcnjgaa
open Go.RowKit Go.Maps
set_option linter.unusedSimpArgs false
set_option linter.unusedVariables false
set_option maxRecDepth 100000

/-- the pins of every frame lie from 0 to k -/
def Pins (k : Nat) (l : List Frm) : Prop := ∀ f ∈ l, 0 ≤ f.pins ∧ f.pins ≤ k
theorem Pins.mono {k m : Nat} {l : List Frm} (h : Pins k l) (hk : k ≤ m) : Pins m l := fun f hf => by have := h f hf; omega
theorem Pins.sub {k : Nat} {l m : List Frm} (h : Pins k l) (hs : ∀ f ∈ m, f ∈ l) : Pins k m := fun f hf => h f (hs f hf)
theorem Pins.snoc {k : Nat} {l : List Frm} {f : Frm} (h : Pins k l) (hf : 0 ≤ f.pins ∧ f.pins ≤ k) : Pins k (l ++ [f]) := fun g hg => by
  rcases List.mem_append.1 hg with hg | hg
  · exact h g hg
  · simp at hg; subst hg; exact hf
theorem upTo_pins {s : CS} {k : Nat} (h : Pins k s.frames) (o : Int) : Pins k (s.upTo o).frames := fun f hf => by
  have e := (upTo_same s o).2.2.2.2
  have h1 := List.mem_map_of_mem (f := fun f : Frm => (f.sector, f.pins, f.bytes)) hf
  rw [e] at h1
  obtain ⟨g, hg, eg⟩ := List.mem_map.1 h1
  simp only [Prod.mk.injEq] at eg
  rw [← eg.2.1]; exact h g hg
theorem rest_mem {s : CS} {n : Int} {f : Frm} (h : f ∈ s.rest n) : f ∈ s.frames := (List.mem_filter.1 h).1
theorem made_pins {s : CS} {k : Nat} (h : Pins k s.frames) : Pins k s.made.2.frames := by
  unfold CS.made
  split
  · exact h
  · cases ho : s.old with
    | none => exact h
    | some f =>
      simp only
      split
      · exact (upTo_pins h f.order).sub (fun g hg => rest_mem hg)
      · exact h.sub (fun g hg => rest_mem hg)
theorem fetch_pins {s : CS} {k : Nat} (h : Pins k s.frames) (n : Int) : Pins k (s.fetch n).2.frames := by
  unfold CS.fetch
  cases hl : s.look n with
  | some f => exact (h.sub (fun g hg => rest_mem hg)).snoc (h f (look_some hl).1)
  | none =>
    simp only
    split
    · split
      · exact (made_pins (s := { s with d := s.d.read, misses := wrap64 (s.misses + 1) }) h).snoc ⟨Int.le_refl _, by simp only; omega⟩
      · exact made_pins (s := { s with d := s.d.read, misses := wrap64 (s.misses + 1) }) h
    · exact h
theorem pin_pins {s : CS} {k : Nat} (h : Pins k s.frames) (hk : k ≤ 1000000) (n : Int) : Pins (k + 1) (s.pin n).2.frames := by
  have hf := fetch_pins h n
  unfold CS.pin
  split
  · intro f hm
    unfold CS.onLast at hm
    rcases List.mem_append.1 hm with hm | hm
    · have := hf f ((List.dropLast_sublist _).subset hm)
      omega
    · obtain ⟨g, hg, rfl⟩ := List.mem_map.1 hm
      have := hf g (List.mem_of_mem_drop hg)
      simp only [Frm.pin]
      rw [IntWalk.wrap64_in _ (by omega)]
      omega
  · exact hf.mono (by omega)
theorem unpin_pins {s : CS} (ok : s.Ok) {k : Nat} (h : Pins k s.frames) (hk : k ≤ 1000000) (n : Int) : Pins k (s.unpin n).2.frames := by
  unfold CS.unpin
  cases hl : s.look n with
  | none => exact h
  | some f =>
    simp only
    split
    · exact h
    · rename_i hp
      intro g hg
      obtain ⟨x, hx, rfl⟩ := List.mem_map.1 hg
      by_cases hnx : Frm.is n x = true
      · rw [if_pos hnx]
        have hxf : x = f := by
          obtain ⟨hfm, hfs⟩ := look_some hl
          have hxs : x.sector = n := by simpa [Frm.is] using hnx
          have hn := ok.nodup
          obtain ⟨i, hi, rfl⟩ := List.getElem_of_mem hx
          obtain ⟨j, hj, rfl⟩ := List.getElem_of_mem hfm
          have hij : i = j := by
            have h1 : (s.frames.map Frm.sector)[i]'(by simpa using hi) = (s.frames.map Frm.sector)[j]'(by simpa using hj) := by simp; omega
            exact (List.getElem_inj hn).1 h1
          subst hij; rfl
        subst hxf
        have := h x hx
        simp only [Frm.unpin]
        rw [IntWalk.wrap64_in _ (by omega)]
        omega
      · rw [if_neg hnx]; exact h x hx
theorem put_pins {s : CS} {k : Nat} (h : Pins k s.frames) (n : Int) (l : List Int) (o : Int) : Pins k (s.put n l o).2.frames := by
  unfold CS.put
  split
  · cases hl : s.look n with
    | some f =>
      simp only
      split
      · exact h
      · exact (h.sub (fun g hg => rest_mem hg)).snoc (h f (look_some hl).1)
    | none =>
      simp only
      split
      · exact (made_pins h).snoc ⟨Int.le_refl _, by simp only; omega⟩
      · exact made_pins h
  · exact h
/-- the length of what Put is given -/
def putLen (size short : Int) : Nat := (size + Int.tmod short 2).toNat
def CS.step (s : CS) (o : OpC) : CS :=
  if o.kind = 0 then (s.fetch o.sector).2 else if o.kind = 1 then (s.pin o.sector).2 else if o.kind = 2 then (s.unpin o.sector).2
  else if o.kind = 3 then (s.put o.sector (rep (putLen s.d.size o.short) o.fill) o.order).2 else if o.kind = 4 then s.upTo o.order
  else if o.kind = 5 then s.sync else if o.kind = 6 then s.drop else s
/-- what holds behind k steps -/
structure Doing (t : CS) (k : Nat) : Prop where
  ok : t.Ok
  pend : t.d.pending.length ≤ k * 4096
  pins : Pins k t.frames
theorem Doing.next {s t : CS} {k : Nat} (h : Doing s k) (q : Keeps s t) (hp : Pins (k + 1) t.frames) : Doing t (k + 1) :=
  ⟨q.ok, by have := q.pend; have := h.pend; omega, hp⟩
theorem Doing.step {s : CS} {k : Nat} (h : Doing s k) (hk : k ≤ 1000000) (o : OpC) (ho : o.Fine) : Doing (s.step o) (k + 1) := by
  unfold CS.step
  split
  · exact h.next (fetch_keeps h.ok _) ((fetch_pins h.pins _).mono (by omega))
  split
  · exact h.next (pin_keeps h.ok _) (pin_pins h.pins hk _)
  split
  · exact h.next (unpin_keeps h.ok _) ((unpin_pins h.ok h.pins hk _).mono (by omega))
  split
  · exact h.next (put_keeps h.ok _ _ _ ho.order) ((put_pins h.pins _ _ _).mono (by omega))
  split
  · exact h.next (upTo_keeps h.ok _) ((upTo_pins h.pins _).mono (by omega))
  split
  · exact h.next (sync_keeps h.ok) ((upTo_pins h.pins _).mono (by omega))
  split
  · exact h.next (drop_keeps h.ok) ((h.pins.sub (fun f hf => (List.mem_filter.1 hf).1)).mono (by omega))
  · exact h.next (Keeps.refl h.ok) (h.pins.mono (by omega))
theorem tmod_two (n : Int) : Int.tmod n 2 = -1 ∨ Int.tmod n 2 = 0 ∨ Int.tmod n 2 = 1 := by
  have h1 := Int.tmod_lt_of_pos n (b := 2) (by omega)
  have h2 := Int.lt_tmod_of_pos n (b := 2) (by omega)
  omega
theorem new_Doing {size count room : Int} (h : fitsD size count = true) (hr : 1 ≤ room ∧ room ≤ 4096) : Doing (CS.new (DS.new size count) room) 0 :=
  ⟨newS_Ok h hr, by simp [CS.new, DS.new], fun f hf => by simp [CS.new] at hf⟩
end Go.Proofs.Ytjjgihaikcnjgaa
