/-
  DiskFlushed: the plain law, and lists of byte slices in memory.
-/
import Derived.Test.YtlkebppmdbgdmaaWholePlain
namespace Go.Proofs.Ytlkebppmdbgdmaa
open Go.RowKit
set_option linter.unusedSimpArgs false
set_option linter.unusedVariables false

/-- one element of a slice is written -/
theorem SlAt.poke2 {w : World} {own : Nat → Prop} {e : TypeId} {g off n cap : Nat} {xs : List Value} (h : SlAt w own e 1 (.slice (some ⟨g, off, none⟩) n cap) n xs) {k : Nat} (hk : k < n) (u : Value) :
    own g ∧ g < w.heap.size ∧ w.cell? ⟨g, off + k, none⟩ = xs[k]? ∧ w.frozen? ⟨g, off + k, none⟩ = false ∧ SlAt (w.setCell ⟨g, off + k, none⟩ u) own e 1 (.slice (some ⟨g, off, none⟩) n cap) n (xs.set k u) := by
  obtain ⟨hl, ⟨a, e1, hn⟩ | ⟨g', off', cap', cur, e1, ho, hb, l1, l2, l3, l4⟩⟩ := h
  · omega
  · injection e1 with e1 e2 e3
    injection e1 with e1
    injection e1 with e1 e4
    subst e1 e3 e4
    rw [Nat.mul_one] at l3 l4
    refine ⟨ho, lt_of_block hb, ?_, free_of_block hb _, by simpa using hl, Or.inr ⟨g, off, cap, _, rfl, ho, block_set hb _ _, l1, l2, by simpa using l3, ?_⟩⟩
    · rw [cell_of_block hb, ← l4, List.getElem?_take, if_pos hk, List.getElem?_drop]; simp
    · rw [Nat.mul_one, Array.toList_setIfInBounds, List.drop_set, if_neg (by omega), List.take_set, l4]
      congr 1
      omega
theorem secOf_fold {s : DS} (ok : s.Ok) {n : Int} (n0 : 0 ≤ n) (n1 : n < s.count) : ∀ (l : List (Int × List Int)) (pl : List Int), (∀ p ∈ l, p ∈ s.pending) → pl.length = s.platter.length →
    secOf s.size (l.foldl (putP s.size) pl) n = l.foldl (pickP n) (secOf s.size pl n)
  | [], _, _, _ => rfl
  | p :: l, pl, hm, hl => by
    have hp := hm p List.mem_cons_self
    rw [List.foldl_cons, List.foldl_cons, secOf_fold ok n0 n1 l _ (fun q hq => hm q (List.mem_cons_of_mem _ hq)) (putP_len ok hp pl hl), secOf_put ok hl hp n0 n1]
    rfl

structure Flushy (s : DS) (last : List (Option (List Int))) (now : List (List Int)) : Prop where
  llen : last.length = s.count.toNat
  nlen : now.length = s.count.toNat
  now : ∀ i (h : i < now.length), now[i] = s.sector i
  last : ∀ i (h : i < last.length) l, last[i] = some l → l = s.base i ∧ ∀ p ∈ s.pending, p.1 ≠ (i : Int)

theorem sector_quiet {s : DS} (h : s.pending = []) (n : Int) : s.sector n = s.base n := by simp [DS.sector, h]
theorem flushy_new {size count : Int} (h : fitsD size count = true) : Flushy (DS.new size count) (List.replicate count.toNat (some (zeros size.toNat))) (List.replicate count.toNat (zeros size.toNat)) := by
  have hb : ∀ i : Nat, i < count.toNat → (DS.new size count).base i = zeros size.toNat := fun i hi => by
    have hl := base_len (new_Ok h) (n := i) (by omega) (by simp only [DS.new]; omega)
    simp only [DS.base, DS.new, zeros, List.drop_replicate, List.take_replicate, List.length_replicate] at hl ⊢
    rw [hl]
  refine ⟨by simp [DS.new], by simp [DS.new], fun i hi => ?_, fun i hi l e => ?_⟩
  · simp only [List.length_replicate] at hi
    rw [sector_quiet rfl, hb i hi]; simp
  · simp only [List.length_replicate] at hi
    simp only [List.getElem_replicate, Option.some.injEq] at e
    exact ⟨by rw [hb i hi]; exact e.symm, by simp [DS.new]⟩
theorem flushy_write {s : DS} {last : List (Option (List Int))} {now : List (List Int)} (h : Flushy s last now) (ha : s.alive = true) {n : Nat} {l : List Int} (hf : s.fit n l = true) : Flushy (s.wrote n l) (last.set n none) (now.set n l) := by
  have ew : (s.wrote n l).pending = s.pending ++ [((n : Int), l)] := by simp [DS.wrote, hf, DS.write, ha]
  have eb : ∀ i, (s.wrote n l).base i = s.base i := fun i => by simp [DS.base, DS.wrote, hf, DS.write, ha, DS.tick]
  refine ⟨by simp [h.llen, wrote_count], by simp [h.nlen, wrote_count], fun i hi => ?_, fun i hi u e => ?_⟩
  · simp only [List.length_set] at hi
    have : (s.wrote n l).sector i = pickP i (s.sector i) ((n : Int), l) := by simp only [DS.sector, ew, List.foldl_append, eb]; rfl
    rw [this, List.getElem_set, pickP]
    by_cases e : n = i
    · rw [if_pos e, if_pos (by simp [e])]
    · rw [if_neg e, if_neg (by simp; omega), h.now i hi]
  · simp only [List.length_set] at hi
    rw [List.getElem_set] at e
    by_cases e2 : n = i
    · rw [if_pos e2] at e; cases e
    · rw [if_neg e2] at e
      obtain ⟨h1, h2⟩ := h.last i hi u e
      refine ⟨by rw [eb]; exact h1, fun p hp => ?_⟩
      rw [ew] at hp
      rcases List.mem_append.1 hp with hp | hp
      · exact h2 p hp
      · simp at hp; subst hp; simp; omega
theorem flushy_flush {s : DS} {last : List (Option (List Int))} {now : List (List Int)} (h : Flushy s last now) (ok : s.Ok) (ha : s.alive = true) : Flushy s.flush (now.map some) now := by
  have hp : s.flush.pending = [] := by simp [DS.flush, ha]
  have hb : ∀ i : Nat, i < s.count.toNat → s.flush.base i = s.sector i := fun i hi => by
    rw [base_secOf, flush_size]
    have : s.flush.platter = s.pending.foldl (putP s.size) s.platter := by simp [DS.flush, ha]
    rw [this, secOf_fold ok (by omega) (by omega) _ _ (fun _ hp => hp) rfl]
    rfl
  have hnl := h.nlen
  refine ⟨by simp [h.nlen, flush_count], by simp [h.nlen, flush_count], fun i hi => ?_, fun i hi u e => ?_⟩
  · rw [sector_quiet hp, hb i (by omega)]; exact h.now i hi
  · simp only [List.length_map] at hi
    simp only [List.getElem_map, Option.some.injEq] at e
    exact ⟨by rw [hb i (by omega), ← h.now i hi]; exact e.symm, by simp [hp]⟩
/-- behind a crash -/
structure Kept (s : DS) (last : List (Option (List Int))) : Prop where
  pend : s.pending = []
  llen : last.length = s.count.toNat
  last : ∀ i (h : i < last.length) l, last[i] = some l → l = s.base i
theorem kept_crash {s : DS} {last : List (Option (List Int))} {now : List (List Int)} (h : Flushy s last now) (ok : s.Ok) {keep : List Int} (hk : KeepOk s.pending.length keep) : Kept (s.crash keep) last := by
  refine ⟨rfl, h.llen, fun i hi l e => ?_⟩
  obtain ⟨h1, h2⟩ := h.last i hi l e
  have hl := h.llen
  rw [h1, base_secOf s]
  have hc : (s.crash keep).base i = secOf s.size ((s.kept keep).foldl (putP s.size) s.platter) i := rfl
  rw [hc]
  rcases secOf_foldl ok (n := i) (by omega) (by omega) (s.kept keep) s.platter (kept_mem hk) rfl with h | ⟨p, hp, e, _⟩
  · exact h.symm
  · exact absurd e (h2 p (kept_mem hk p hp))
theorem kept_none {s : DS} {last : List (Option (List Int))} {now : List (List Int)} (h : Flushy s last now) (hp : s.pending = []) : Kept s last := ⟨hp, h.llen, fun i hi l e => (h.last i hi l e).1⟩
theorem Kept.read {s : DS} {last : List (Option (List Int))} (h : Kept s last) : Kept s.read last := ⟨h.pend, h.llen, h.last⟩

/-! ### rows in memory -/
def RowC (w : World) (col : Nat → Nat) (v : Value) : Option (List Int) → Prop
  | none => v = .slice none 0 0
  | some l => ∃ g off cap, v = .slice (some ⟨g, off, none⟩) l.length cap ∧ RdAt w (Nil0 col) 1 (.slice (some ⟨g, off, none⟩) l.length cap) l.length (bcells l)
def RowsAt (w : World) (col : Nat → Nat) (c : Nat) (v : Value) (L : List (Option (List Int))) : Prop :=
  ∃ qs, SlAt w (fun k => col k = c) 30 1 v L.length qs ∧ ∀ i (h : i < L.length), ∃ u, qs[i]? = some u ∧ RowC w col u L[i]
theorem RowC.step {w w' : World} {c : Nat} {col col' : Nat → Nat} {v : Value} (k : Step c col col' w w') (hc : 1 < c) : ∀ {o : Option (List Int)}, RowC w col v o → RowC w' col' v o
  | none, h => h
  | some l, ⟨g, off, cap, e, h⟩ => ⟨g, off, cap, e, k.rd hc h⟩
theorem RowC.one {w : World} {col : Nat → Nat} {v : Value} : ∀ {o : Option (List Int)}, RowC w col v o → v.oneCell' = true
  | none, h => by rw [show v = .slice none 0 0 from h]; rfl
  | some l, ⟨g, off, cap, e, h⟩ => by rw [e]; rfl
theorem RowsAt.step {w w' : World} {c d : Nat} {col col' : Nat → Nat} {v : Value} {L : List (Option (List Int))} (k : Step c col col' w w') (hc : 1 < c) (hd : d < c ∨ c + 2 < d) (h : RowsAt w col d v L) : RowsAt w' col' d v L := by
  obtain ⟨qs, h1, h2⟩ := h
  refine ⟨qs, h1.keep (fun i hi e => k.chg.block i hi (fun e' => by unfold inC at e'; omega)) (fun i hi e => (k.ext i hi).trans e), fun i hi => ?_⟩
  obtain ⟨u, e, h⟩ := h2 i hi
  exact ⟨u, e, h.step k hc⟩
theorem RowsAt.below {w w' : World} {d : Nat} {col : Nat → Nat} {v : Value} {L : List (Option (List Int))} (hn : Norm w col) (k : Below w.heap.size w w') (h : RowsAt w col d v L) : RowsAt w' col d v L := h.step (Step.below (c := d + 3) hn k) (by omega) (by omega)
theorem RowsAt.shape {w : World} {col : Nat → Nat} {c : Nat} {v : Value} {L : List (Option (List Int))} (h : RowsAt w col c v L) : ∃ a cap, v = .slice a L.length cap := by
  obtain ⟨qs, h1, _⟩ := h
  exact h1.shape
/-- one row is written -/
theorem RowsAt.poke {w : World} {col : Nat → Nat} {c g off cap n : Nat} {L : List (Option (List Int))} (h : RowsAt w col c (.slice (some ⟨g, off, none⟩) n cap) L) (hn : n = L.length) (hnm : Norm w col) (hc : 1 < c) {k : Nat} (hk : k < L.length) {u : Value} {o : Option (List Int)} (hu : RowC w col u o) :
    w.frozen? ⟨g, off + k, none⟩ = false ∧ (∃ x, w.cell? ⟨g, off + k, none⟩ = some x) ∧ RowsAt (w.setCell ⟨g, off + k, none⟩ u) col c (.slice (some ⟨g, off, none⟩) n cap) (L.set k o) ∧ Step c col col w (w.setCell ⟨g, off + k, none⟩ u) := by
  subst hn
  obtain ⟨qs, h1, h2⟩ := h
  obtain ⟨hg, hgl, hcell, hfree, hsl⟩ := h1.poke2 hk u
  have st : Step c col col w (w.setCell ⟨g, off + k, none⟩ u) := ⟨Ext.refl _ _, Chg.of_set _ _ _ _ (by unfold inC; omega), hnm.grow (by simp)⟩
  obtain ⟨x, hx, _⟩ := h2 k hk
  refine ⟨hfree, ⟨x, by rw [hcell, hx]⟩, ⟨qs.set k u, by simpa using hsl, fun i hi => ?_⟩, st⟩
  simp only [List.length_set] at hi
  obtain ⟨y, hy, hyr⟩ := h2 i hi
  have hql : k < qs.length := by have := h1.1; simp at this; omega
  by_cases e : k = i
  · subst e
    exact ⟨u, by simp [List.getElem?_set, hql], by simpa using hu.step st hc⟩
  · exact ⟨y, by rw [List.getElem?_set_ne e]; exact hy, by rw [List.getElem_set_ne e]; exact hyr.step st hc⟩
/-- a new block of a colour -/
def colP (col : Nat → Nat) (n c : Nat) (k : Nat) : Nat := if k = n then c else col k
theorem paint {w : World} {col : Nat → Nat} (hn : Norm w col) (o : Obj) (c : Nat) : Step c col (colP col w.heap.size c) w (w.alloc o) :=
  ⟨fun k hk => by simp only [colP]; rw [if_neg (by omega)], Chg.of_below ((Below.refl _ _).alloc (Nat.le_refl _) _), fun k hk => by simp only [World.size_alloc] at hk; simp only [colP]; rw [if_neg (by omega)]; exact hn k (by omega)⟩
end Go.Proofs.Ytlkebppmdbgdmaa
