/-
  The calls as the laws make them: a disk of a colour among blocks of colour 0.
-/
import Derived.Test.YtjjgihaikcnjgaaDLives
namespace Go.Proofs.Ytjjgihaikcnjgaa
open Go.RowKit
set_option linter.unusedSimpArgs false
set_option linter.unusedVariables false
set_option maxRecDepth 100000

/-- from w to w' but the disk of colour c was turned -/
structure Step (c : Nat) (col col' : Nat → Nat) (w w' : World) : Prop where
  ext : Ext w.heap.size col col'
  chg : Chg (inC col c) w w'
  norm : Norm w' col'
structure Env (W : World) (col : Nat → Nat) (w : World) : Prop where
  norm : Norm w col
  zero : ∀ k, k < W.heap.size → col k = 0
  bel : Below W.heap.size W w
def Nil0 (col : Nat → Nat) (k : Nat) : Prop := col k = 0
theorem Env.refl (W : World) : Env W (fun _ => 0) W := ⟨fun _ _ => rfl, fun _ _ => rfl, Below.refl _ _⟩
theorem Env.size {W w : World} {col : Nat → Nat} (h : Env W col w) : W.heap.size ≤ w.heap.size := h.bel.size
theorem Env.step {W w w' : World} {c : Nat} {col col' : Nat → Nat} (h : Env W col w) (k : Step c col col' w w') (hc : 1 < c) : Env W col' w' :=
  ⟨k.norm, fun i hi => (k.ext i (Nat.lt_of_lt_of_le hi h.size)).trans (h.zero i hi), chg_grow h.bel (Nat.le_refl _) k.chg (fun i hi e => by have := h.zero i hi; unfold inC at e; omega)⟩
theorem Step.below {w w' : World} {c : Nat} {col : Nat → Nat} (h : Norm w col) (k : Below w.heap.size w w') : Step c col col w w' := ⟨Ext.refl _ _, Chg.of_below k, h.grow k.size⟩
theorem Env.below {W w w' : World} {col : Nat → Nat} (h : Env W col w) (k : Below w.heap.size w w') : Env W col w' := h.step (Step.below (c := 10) h.norm k) (by omega)
theorem Step.trans {a b d : World} {c : Nat} {col col' col'' : Nat → Nat} (h : Step c col col' a b) (k : Step c col' col'' b d) : Step c col col'' a d :=
  ⟨h.ext.trans k.ext h.chg.size, h.chg.trans' k.chg (fun i hi e => by unfold inC at *; rw [h.ext i hi] at e; exact e), k.norm⟩
theorem Step.rd {w w' : World} {c : Nat} {col col' : Nat → Nat} {size n : Nat} {v : Value} {xs : List Value} (k : Step c col col' w w') (hc : 1 < c) (h : RdAt w (Nil0 col) size v n xs) : RdAt w' (Nil0 col') size v n xs :=
  h.keep (fun i hi e => k.chg.block i hi (fun e' => by unfold Nil0 at e; unfold inC at e'; omega)) (fun i hi e => (k.ext i hi).trans e) k.chg.size
theorem Step.sl {w w' : World} {c : Nat} {col col' : Nat → Nat} {e : TypeId} {size n : Nat} {v : Value} {xs : List Value} (k : Step c col col' w w') (hc : 1 < c) (h : SlAt w (Nil0 col) e size v n xs) : SlAt w' (Nil0 col') e size v n xs :=
  h.keep (fun i hi e => k.chg.block i hi (fun e' => by unfold Nil0 at e; unfold inC at e'; omega)) (fun i hi e => (k.ext i hi).trans e)
theorem Step.other {T : TypeId} {w w' : World} {c d b : Nat} {s : DS} {col col' : Nat → Nat} (k : Step c col col' w w') (hc : 1 < c) (hd : d + 2 < c ∨ c + 2 < d) (h : DiskAt w T col d b s) : DiskAt w' T col' d b s :=
  h.apart k.chg k.ext hd hc
/-- what lies in blocks of the first world -/
theorem Env.rd {W w : World} {col : Nat → Nat} {size n : Nat} {v : Value} {xs : List Value} (h : Env W col w) (r : RdAt W (fun k => k < W.heap.size) size v n xs) : RdAt w (Nil0 col) size v n xs :=
  r.keep (fun k hk _ => h.bel.block k hk) (fun k hk _ => h.zero k hk) h.size
theorem fresh_rd {w w' : World} {col : Nat → Nat} {size n : Nat} {v : Value} {xs : List Value} (h : Norm w col) (r : RdAt w' (fun k => w.heap.size ≤ k) size v n xs) : RdAt w' (Nil0 col) size v n xs := r.mono (fun k _ e => h k e)
theorem fresh_sl {w w' : World} {col : Nat → Nat} {e : TypeId} {size n : Nat} {v : Value} {xs : List Value} (h : Norm w col) (r : SlAt w' (fun k => w.heap.size ≤ k) e size v n xs) : SlAt w' (Nil0 col) e size v n xs := r.mono (fun k _ e => h k e)

def Did (T : TypeId) (c : Nat) (col : Nat → Nat) (b : Nat) (s : DS) (w w' : World) : Prop := ∃ col', DiskAt w' T col' c b s ∧ Step c col col' w w'

/-- a slice of colour 0 -/
def Bytes0 (col : Nat → Nat) (l : List Int) (w : World) (e : Ending) (w' : World) : Prop :=
  (∃ a cap, e = .returned (.slice a l.length cap) ∧ SlAt w' (Nil0 col) 5 1 (.slice a l.length cap) l.length (bcells l)) ∧ Below w.heap.size w w'
def DS.fit (s : DS) (n : Int) (l : List Int) : Bool := decide (0 ≤ n) && (decide (n < s.count) && ((l.length : Int) == s.size))
def DS.wcode (s : DS) (n : Int) (l : List Int) : Int := if s.fit n l then 0 else 30
def DS.wrote (s : DS) (n : Int) (l : List Int) : DS := if s.fit n l then s.write n l else s
theorem fit_iff {s : DS} {n : Int} {l : List Int} : s.fit n l = true ↔ 0 ≤ n ∧ n < s.count ∧ (l.length : Int) = s.size := by simp [DS.fit]
theorem write_law (w : World) (col : Nat → Nat) (c b : Nat) (s : DS) (n : Int) (v : Value) (l : List Int) (h : DiskAt w 86 col c b s) (hc : 1 < c) (ok : s.Ok) (hnm : Norm w col) (hv : RdAt w (Nil0 col) 1 v l.length (bcells l)) (hp : s.pending.length ≤ 1073741824) :
    Calls Try.prog 47 #[.pointer (some ⟨b, 0, none⟩), .int .i64 n, v] w fun e w' => e = .returned (.int .i64 (s.wcode n l)) ∧ Did 86 c col b (s.wrote n l) w w' := by
  have hs : 0 < s.size := by have := ok.size0; omega
  unfold DS.wcode DS.wrote
  cases hf : s.fit n l with
  | false =>
    have hf' : ¬ (0 ≤ n ∧ n < s.count ∧ (l.length : Int) = s.size) := fun e => by rw [fit_iff.2 e] at hf; cases hf
    refine (write_bad w col c b s n _ v l h hs hv hf').mono ?_
    rintro e w' ⟨rfl, rfl⟩
    exact ⟨by simp, col, by simpa using h, Ext.refl _ _, Chg.refl _ _, hnm⟩
  | true =>
    obtain ⟨h0, h1, h2⟩ := fit_iff.1 hf
    refine (write_ok w col c b s n _ v l h hc hs ok.left hv h0 h1 h2 ok.size1 hp (fun k e e' => by unfold Nil0 at e; unfold inC at e'; omega) hnm).mono ?_
    rintro e w' ⟨rfl, ⟨col', hd, he, hn'⟩, hk⟩
    exact ⟨by simp, col', by simpa using hd, he, hk, hn'⟩
theorem wrote_Ok {s : DS} (ok : s.Ok) (n : Int) (l : List Int) : (s.wrote n l).Ok := by
  unfold DS.wrote
  cases hf : s.fit n l with
  | false => simpa using ok
  | true =>
    obtain ⟨h0, h1, h2⟩ := fit_iff.1 hf
    simpa using write_Ok ok h0 h1 h2
theorem wrote_pend (s : DS) (n : Int) (l : List Int) : (s.wrote n l).pending.length ≤ s.pending.length + 1 := by
  unfold DS.wrote DS.write
  split
  · split <;> simp
  · simp
theorem wrote_size (s : DS) (n : Int) (l : List Int) : (s.wrote n l).size = s.size := by
  unfold DS.wrote DS.write DS.tick
  split
  · split <;> rfl
  · rfl
theorem wrote_count (s : DS) (n : Int) (l : List Int) : (s.wrote n l).count = s.count := by
  unfold DS.wrote DS.write DS.tick
  split
  · split <;> rfl
  · rfl
theorem wrote_stops (s : DS) (n : Int) (l : List Int) : (s.wrote n l).stops = s.stops := by
  unfold DS.wrote DS.write DS.tick
  split
  · split <;> rfl
  · rfl
theorem flush_size (s : DS) : s.flush.size = s.size := by unfold DS.flush DS.tick; split <;> rfl
theorem flush_count (s : DS) : s.flush.count = s.count := by unfold DS.flush DS.tick; split <;> rfl
theorem flush_stops (s : DS) : s.flush.stops = s.stops := by unfold DS.flush DS.tick; split <;> rfl
theorem flush_pend (s : DS) : s.flush.pending.length ≤ s.pending.length := by unfold DS.flush DS.tick; split <;> simp

theorem flush_law (w : World) (col : Nat → Nat) (c b : Nat) (s : DS) (h : DiskAt w 86 col c b s) (hc : 1 < c) (ok : s.Ok) (hnm : Norm w col) (hp : s.pending.length ≤ 1073741824) :
    Calls Try.prog 48 #[.pointer (some ⟨b, 0, none⟩)] w fun e w' => e = .returned (.int .i64 s.pending.length) ∧ Did 86 c col b s.flush w w' := by
  refine (flush_any w col c b s h hc ok hp).mono ?_
  rintro e w' ⟨rfl, hd, hk⟩
  exact ⟨rfl, col, hd, Ext.refl _ _, hk, hnm.grow hk.size⟩
open Classical in
noncomputable def DS.ccode (s : DS) (keep : List Int) : Int := if KeepOk s.pending.length keep then 0 else 1
open Classical in
noncomputable def DS.crashed (s : DS) (keep : List Int) : DS := if KeepOk s.pending.length keep then s.crash keep else s
theorem crash_law (w : World) (col : Nat → Nat) (c b : Nat) (s : DS) (v : Value) (keep : List Int) (h : DiskAt w 86 col c b s) (hc : 1 < c) (ok : s.Ok) (hnm : Norm w col) (hp : s.pending.length ≤ 1073741824) (hv : RdAt w (Nil0 col) 1 v keep.length (keep.map (Value.int .i64))) :
    Calls Try.prog 22 #[.pointer (some ⟨b, 0, none⟩), v] w fun e w' => (KeepOk s.pending.length keep ∧ e = .returned (.int .i64 0) ∧ Did 86 c col b (s.crash keep) w w') ∨ (¬ KeepOk s.pending.length keep ∧ e = .returned (.int .i64 1) ∧ Did 86 c col b s w w') := by
  refine (crash_any w col c b s _ v keep h hc ok hp hv (fun k e e' => by unfold Nil0 at e; unfold inC at e'; omega)).mono ?_
  rintro e w' (⟨h1, rfl, k⟩ | ⟨h1, rfl, hd, hk⟩)
  · exact Or.inr ⟨h1, rfl, col, h.below k, Ext.refl _ _, Chg.of_below k, hnm.grow k.size⟩
  · exact Or.inl ⟨h1, rfl, col, hd, Ext.refl _ _, hk, hnm.grow hk.size⟩
theorem image_law (w : World) (col : Nat → Nat) (c b : Nat) (s : DS) (h : DiskAt w 86 col c b s) (ok : s.Ok) (hnm : Norm w col) :
    Calls Try.prog 64 #[.pointer (some ⟨b, 0, none⟩)] w fun e w' => Bytes0 col s.platter w e w' := by
  obtain ⟨m0, m1⟩ := mul_bounds (a := s.size) (b := s.count) (by have := ok.size0; omega) ok.size1 (by have := ok.count0; omega) ok.count1
  refine (image_any w col c b s h (by have := ok.size0; omega) (by have := ok.plen; omega)).mono ?_
  rintro e w' ⟨⟨a, cap, rfl, hs⟩, k⟩
  exact ⟨⟨a, cap, rfl, fresh_sl hnm hs⟩, k⟩
theorem pending_law (w : World) (col : Nat → Nat) (c b : Nat) (s : DS) (h : DiskAt w 86 col c b s) (ok : s.Ok) (hnm : Norm w col) (hp : s.pending.length ≤ 1073741824) :
    Calls Try.prog 17 #[.pointer (some ⟨b, 0, none⟩)] w fun e w' => (∃ a cap, e = .returned (.slice a s.sectors.length cap) ∧ RdAt w' (Nil0 col) 1 (.slice a s.sectors.length cap) s.sectors.length (s.sectors.map (Value.int .i64))) ∧ Below w.heap.size w w' := by
  refine (pending_any w col c b s h (by have := ok.size0; omega) hp).mono ?_
  rintro e w' ⟨⟨a, cap, rfl, hs⟩, k⟩
  exact ⟨⟨a, cap, rfl, fresh_rd hnm hs.rd⟩, k⟩
theorem keepOk_nil (n : Nat) : KeepOk n [] := fun i hi => by simp at hi
theorem keepOk_zero {l : List Int} (h : 0 < l.length) : ¬ KeepOk 0 l := fun e => by have := (e 0 h); omega
theorem crash_nil (s : DS) : s.crash [] = { s with pending := [], stops := false, left := 0 } := by simp [DS.crash, DS.kept]
end Go.Proofs.Ytjjgihaikcnjgaa
