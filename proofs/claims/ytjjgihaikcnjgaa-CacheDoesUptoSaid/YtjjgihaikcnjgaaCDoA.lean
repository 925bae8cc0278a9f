/-
  Both caches stand together; begin of the laws.
-/
import Derived.Test.YtjjgihaikcnjgaaCDoesP
import Derived.Test.YtjjgihaikcnjgaaCRc
import Derived.Test.YtjjgihaikcnjgaaCAO
import Derived.Deep.QuietTactic
import Derived.BigQuiet
namespace Go.Proofs.Ytjjgihaikcnjgaa
open Go.RowKit Go.Maps
set_option linter.unusedSimpArgs false
set_option linter.unusedVariables false
set_option maxRecDepth 100000

/-- the colours 20 and 30 are never written -/
structure Free (col col' : Nat → Nat) (w w' : World) : Prop where
  ext : Ext w.heap.size col col'
  chg : Chg (fun i => col i ≠ 20 ∧ col i ≠ 30) w w'
  norm : Norm w' col'
theorem Free.refl {w : World} {col : Nat → Nat} (h : Norm w col) : Free col col w w := ⟨Ext.refl _ _, Chg.refl _ _, h⟩
theorem Free.trans {a b d : World} {col col' col'' : Nat → Nat} (h : Free col col' a b) (k : Free col' col'' b d) : Free col col'' a d :=
  ⟨h.ext.trans k.ext h.chg.size, h.chg.trans' k.chg (fun i hi e => by rw [h.ext i hi] at e; exact e), k.norm⟩
theorem Free.below {w w' : World} {col : Nat → Nat} (h : Norm w col) (k : Below w.heap.size w w') : Free col col w w' := ⟨Ext.refl _ _, Chg.of_below k, h.grow k.size⟩
theorem Free.drew {w w' : World} {col col' : Nat → Nat} (h : Free col col' w w') : Free col col' w w'.drew := ⟨h.ext, h.chg.drew, h.norm⟩
theorem KStep.free {w w' : World} {c : Nat} {col col' : Nat → Nat} (k : KStep c col col' w w') (hc : c + 4 < 20) : Free col col' w w' := ⟨k.ext, k.chg.mono (fun i _ e => by unfold inK at e; omega), k.norm⟩
theorem Free.own {w w' : World} {col : Nat → Nat} {own : Nat → Prop} (h : Norm w col) (k : Chg own w w') (ho : ∀ i, own i → col i = 0) : Free col col w w' := ⟨Ext.refl _ _, k.mono (fun i _ e => by have := ho i e; omega), h.grow k.size⟩
theorem Free.cell {w w' : World} {col col' : Nat → Nat} {p : Addr} {v : Value} (k : Free col col' w w') (hc : w.cell? p = some v) (ho : col p.block = 20 ∨ col p.block = 30) : w'.cell? p = some v := k.chg.cellOf hc (fun e => by omega)
/-- both caches, and the block that holds them -/
structure Duo (w : World) (col : Nat → Nat) (b0 cb db rb xb : Nat) (s t : CS) : Prop where
  cache : CacheAt w col 2 cb db s
  ref : RCacheAt w col 10 rb xb t
  block : w.heap[b0]? = some (.cells #[ptr db, ptr xb, ptr cb, ptr rb] 71 (0, 0))
  color : col b0 = 20
section
variable {w w' : World} {col col' : Nat → Nat} {b0 cb db rb xb : Nat} {s t s' : CS}
theorem Duo.lt (h : Duo w col b0 cb db rb xb s t) : b0 < w.heap.size := lt_of_block h.block
theorem Duo.cells (h : Duo w col b0 cb db rb xb s t) : w.cell? ⟨b0, 0, none⟩ = some (ptr db) ∧ w.cell? ⟨b0, 1, none⟩ = some (ptr xb) ∧ w.cell? ⟨b0, 2, none⟩ = some (ptr cb) ∧ w.cell? ⟨b0, 3, none⟩ = some (ptr rb) := by
  refine ⟨?_, ?_, ?_, ?_⟩ <;> (rw [cell_of_block h.block]; rfl)
theorem CacheAt.other (h : CacheAt w col 2 cb db s) (k : KStep 10 col col' w w') : CacheAt w' col' 2 cb db s := by
  obtain ⟨r, m, ns, h⟩ := h
  exact ⟨r, m, ns, h.other k (by omega) (by omega)⟩
theorem RCacheAt.other (h : RCacheAt w col 10 rb xb s) (k : KStep 2 col col' w w') : RCacheAt w' col' 10 rb xb s := by
  obtain ⟨fv, fs, h⟩ := h
  exact (h.other k (by omega) (by omega)).at
theorem RCacheAt.below (h : RCacheAt w col 10 rb xb s) (k : Below w.heap.size w w') : RCacheAt w' col 10 rb xb s := by
  obtain ⟨fv, fs, h⟩ := h
  exact (h.below k).at
theorem Free.block {o : Obj} {b : Nat} (k : Free col col' w w') (h : w.heap[b]? = some o) (hc : col b = 20 ∨ col b = 30) : w'.heap[b]? = some o := k.chg.keeps h (fun e => by omega)
theorem Duo.below (h : Duo w col b0 cb db rb xb s t) (k : Below w.heap.size w w') : Duo w' col b0 cb db rb xb s t := ⟨h.cache.below k, h.ref.below k, below_keeps k h.block h.lt, h.color⟩
theorem Duo.stepC (h : Duo w col b0 cb db rb xb s t) (k : KStep 2 col col' w w') (hc : CacheAt w' col' 2 cb db s') : Duo w' col' b0 cb db rb xb s' t :=
  ⟨hc, h.ref.other k, (k.free (by omega)).block h.block (Or.inl h.color), by rw [k.ext _ h.lt]; exact h.color⟩
theorem Duo.stepR (h : Duo w col b0 cb db rb xb s t) (k : KStep 10 col col' w w') (hc : RCacheAt w' col' 10 rb xb s') : Duo w' col' b0 cb db rb xb s s' :=
  ⟨h.cache.other k, hc, (k.free (by omega)).block h.block (Or.inl h.color), by rw [k.ext _ h.lt]; exact h.color⟩
/-- blocks of no colour are written -/
theorem Duo.own {own : Nat → Prop} (h : Duo w col b0 cb db rb xb s t) (k : Chg own w w') (ho : ∀ i, own i → col i = 0) : Duo w' col b0 cb db rb xb s t := by
  obtain ⟨⟨r, m, ns, h1⟩, ⟨fv, fs, h2⟩, h3, h4⟩ := h
  have no : ∀ (i : Nat) (c : Nat), 1 < c → (col i = 1 ∨ inK col c i) → ¬ own i := fun i c hc e e' => by have := ho i e'; unfold inK at e; omega
  exact ⟨⟨r, m, ns, h1.keep (fun i hi e => k.block i hi (no i 2 (by omega) e)) (Ext.refl _ _) k.size⟩, (h2.keep (fun i hi e => k.block i hi (no i 10 (by omega) e)) (Ext.refl _ _) k.size).at, k.keeps h3 (fun e => by have := ho _ e; omega), h4⟩
end
theorem rnew_nil (w : World) (room : Int) :
    Calls Try.prog 54 #[.pointer none, .int .i64 room] w fun e w' => e = .returned (.tuple #[.pointer none, .int .i64 1]) ∧ w' = w := by
  go_enter Try.func54, Try.ntmps54
  go_wp2_with fail
  refine bodyPost_ret (v := .tuple #[.pointer none, .int .i64 1]) (by simp [results, Try.results54, go_sem, *]) rfl ?_
  exact ⟨rfl, rfl⟩
def BeginTells (w : World) (size sectors frames : Int) (e : Ending) (w' : World) : Prop :=
  (fitsD size sectors = true ∧ (1 ≤ frames ∧ frames ≤ 4096) ∧ ∃ b0 cb db rb xb col, e = .returned (.tuple #[ptr b0, .bool true]) ∧ Duo w' col b0 cb db rb xb (CS.new (DS.new size sectors) frames) (CS.new (DS.new size sectors) frames) ∧ Norm w' col ∧ (∀ i, i < w.heap.size → col i = 30) ∧ Below w.heap.size w w') ∨
  (¬ (fitsD size sectors = true ∧ (1 ≤ frames ∧ frames ≤ 4096)) ∧ e = .returned (.tuple #[.pointer none, .bool true]) ∧ Below w.heap.size w w')
def base (n k : Nat) : Nat := if k < n then 30 else 0
theorem refAt_new {w : World} {col : Nat → Nat} {c b : Nat} {size sectors : Int} (h : DiskAt w 108 col c b (DS.new size sectors)) : RefAt w col c b (DS.new size sectors) := ⟨_, h, rfl⟩
theorem RefAt.keep' {w w' : World} {col col' : Nat → Nat} {b : Nat} {s : DS} (h : RefAt w col 10 b s) (k : KStep 2 col col' w w') : RefAt w' col' 10 b s := by
  obtain ⟨t, hd, e⟩ := h
  exact ⟨t, hd.keep (fun i hi e => k.chg.block i hi (fun e' => by unfold inC at e; unfold inK at e'; omega)) k.ext k.chg.size, e⟩
set_option maxHeartbeats 8000000 in
theorem begin_any (w : World) (size sectors frames : Int) (a : Option Addr) (n cap : Nat) : Calls Try.prog 27 #[scr size sectors frames (.slice a n cap)] w fun e w' => BeginTells w size sectors frames e w' := by
  unfold scr
  cases hf : fitsD size sectors with
  | false =>
    go_enter Try.func27, Try.ntmps27
    have BW : Below w.heap.size w (w.alloc (.cells #[.int .i64 size, .int .i64 sectors, .int .i64 frames, .slice a n cap] 24)) := (Below.refl _ _).alloc (Nat.le_refl _) _
    have f2 : (w.alloc (.cells #[.int .i64 size, .int .i64 sectors, .int .i64 frames, .slice a n cap] 24)).cell? ⟨w.heap.size, 2, none⟩ = some (.int .i64 frames) := by rw [cell_of_block (block_new _ _)]; rfl
    have hlt : w.heap.size < (w.alloc (.cells #[.int .i64 size, .int .i64 sectors, .int .i64 frames, .slice a n cap] 24)).heap.size := by simp
    go_wp2_with fail
    refine (new_no _ size sectors hf).mono ?_
    rintro e w1 ⟨rfl, rfl⟩
    go_wp2_with fail
    refine (refnew_no _ size sectors hf).mono ?_
    rintro e w1 ⟨rfl, rfl⟩
    have HF := Lib.hid hf
    clear hf
    generalize w.alloc (.cells #[.int .i64 size, .int .i64 sectors, .int .i64 frames, .slice a n cap] 24) = w1 at *
    generalize hD : w.heap.size = D at *
    have HD := Lib.hid hD
    clear hD
    go_wp2_with fail
    refine (awake_any _).mono ?_
    rintro e w2 ⟨rfl, k2⟩
    have g2 := (k2.cell (p := ⟨D, 2, none⟩) hlt).trans f2
    have K2 := Lib.hid (BW.trans (k2.mono (Nat.le_of_lt hlt)))
    clear k2 f2 BW
    go_wp2_with fail
    refine (newcache_nil _ _).mono ?_
    rintro e w3 ⟨rfl, rfl⟩
    go_wp2_with fail
    refine (rnew_nil _ _).mono ?_
    rintro e w3 ⟨rfl, rfl⟩
    go_wp2_with fail
    refine bodyPost_ret (v := .tuple #[.pointer none, .bool true]) (by simp [results, Try.results27, go_sem, *]) rfl ?_
    refine Or.inr ⟨fun e => by rw [HF.out] at e; exact absurd e.1 (by decide), rfl, ?_⟩
    rw [HD.out]; exact K2.out
  | true =>
    go_enter Try.func27, Try.ntmps27
    have BW : Below w.heap.size w (w.alloc (.cells #[.int .i64 size, .int .i64 sectors, .int .i64 frames, .slice a n cap] 24)) := (Below.refl _ _).alloc (Nat.le_refl _) _
    have f2 : (w.alloc (.cells #[.int .i64 size, .int .i64 sectors, .int .i64 frames, .slice a n cap] 24)).cell? ⟨w.heap.size, 2, none⟩ = some (.int .i64 frames) := by rw [cell_of_block (block_new _ _)]; rfl
    have f1 : (w.alloc (.cells #[.int .i64 size, .int .i64 sectors, .int .i64 frames, .slice a n cap] 24)).cell? ⟨w.heap.size, 1, none⟩ = some (.int .i64 sectors) := by rw [cell_of_block (block_new _ _)]; rfl
    have f0 : (w.alloc (.cells #[.int .i64 size, .int .i64 sectors, .int .i64 frames, .slice a n cap] 24)).cell? ⟨w.heap.size, 0, none⟩ = some (.int .i64 size) := by rw [cell_of_block (block_new _ _)]; rfl
    have hlt : w.heap.size < (w.alloc (.cells #[.int .i64 size, .int .i64 sectors, .int .i64 frames, .slice a n cap] 24)).heap.size := by simp
    have hbase : ∀ i, i < w.heap.size + 1 → base (w.heap.size + 1) i = 30 := fun i hi => by unfold base; rw [if_pos hi]
    have BW0 := BW
    go_wp2_with fail
    generalize w.alloc (.cells #[.int .i64 size, .int .i64 sectors, .int .i64 frames, .slice a n cap] 24) = w1 at *
    generalize hD : w.heap.size = D at *
    have HD := Lib.hid hD
    clear hD
    refine (new_ok w1 size sectors hf (base (D + 1)) 2).mono ?_
    rintro e w2 ⟨⟨db, col1, rfl, hdb, hd, hext, hn1⟩, k1⟩
    have K1 := Lib.hid (BW.trans (k1.mono (Nat.le_of_lt hlt)))
    have f12 := (k1.cell (p := ⟨D, 2, none⟩) hlt).trans f2
    have f11 := (k1.cell (p := ⟨D, 1, none⟩) hlt).trans f1
    have f10 := (k1.cell (p := ⟨D, 0, none⟩) hlt).trans f0
    have hlt2 : D < w2.heap.size := Nat.lt_of_lt_of_le hlt k1.size
    have HB : Hid (∀ i, i < D + 1 → col1 i = 30) := fun i hi => (hext i (by omega)).trans (hbase i hi)
    have HF := Lib.hid hf
    have HD1 := Lib.hid hd
    have HN1 := Lib.hid hn1
    clear k1 f2 f1 f0 hlt hbase BW hext hd hdb hn1 hf
    go_wp2_with fail
    refine (refnew_ok w2 size sectors HF.out col1 10).mono ?_
    rintro e w3 ⟨⟨xb, col2, rfl, hdb, hd, hext, hn2⟩, k1⟩
    have HD2 : Hid (DiskAt w3 86 col2 2 db (DS.new size sectors)) := HD1.out.keep (fun i hi _ => k1.block i hi) hext k1.size
    have HX2 := Lib.hid (refAt_new hd)
    have HN2 := Lib.hid hn2
    have HB2 : Hid (∀ i, i < D + 1 → col2 i = 30) := fun i hi => (hext i (by omega)).trans (HB.out i hi)
    have K2 := Lib.hid (K1.out.trans (k1.mono (Nat.le_of_lt hlt2)))
    have f2 := (k1.cell (p := ⟨D, 2, none⟩) hlt2).trans f12
    have hlt3 : D < w3.heap.size := Nat.lt_of_lt_of_le hlt2 k1.size
    clear k1 f12 f11 f10 hext hd hdb hn2 HD1 HN1 HB K1
    go_wp2_with fail
    refine (awake_any _).mono ?_
    rintro e w4 ⟨rfl, k1⟩
    have HD3 := Lib.hid (HD2.out.below k1)
    have HX3 := Lib.hid (HX2.out.below k1)
    have HN3 := Lib.hid (HN2.out.grow k1.size)
    have K3 := Lib.hid (K2.out.trans (k1.mono (Nat.le_of_lt hlt3)))
    have f12 := (k1.cell (p := ⟨D, 2, none⟩) hlt3).trans f2
    have hlt4 : D < w4.heap.size := Nat.lt_of_lt_of_le hlt3 k1.size
    clear k1 f2 HD2 HX2 HN2 K2
    by_cases hr : 1 ≤ frames ∧ frames ≤ 4096
    · have HR := Lib.hid hr
      clear hr
      go_wp2_with fail
      refine (cnew_any (s := CS.new (DS.new size sectors) frames) HD3.out (by omega) HN3.out frames HR.out).mono ?_
      rintro e w5 ⟨rfl, col5, h5, k5, -⟩
      have H5 := Lib.hid (show CacheAt w5 col5 2 (w4.heap.size + 2) db (CS.new (DS.new size sectors) frames) from h5)
      have HX5 := Lib.hid (HX3.out.keep' k5)
      have HN5 := Lib.hid k5.norm
      have HB5 : Hid (∀ i, i < D + 1 → col5 i = 30) := fun i hi => (k5.ext i (by omega)).trans (HB2.out i hi)
      have K5 := Lib.hid (K3.out.trans (k5.chg.below (Nat.le_of_lt hlt4) (fun i hi e => by have := HB2.out i (by omega); unfold inK at e; omega)))
      have f2 := k5.chg.cellOf f12 (fun e => by have := HB2.out D (by omega); unfold inK at e; simp only at e; omega)
      have hlt5 : D < w5.heap.size := Nat.lt_of_lt_of_le hlt4 k5.chg.size
      clear h5 k5 f12 HD3 HX3 HN3 HB2 K3
      generalize w4.heap.size + 2 = cb at *
      unfold ptr
      go_wp2_with fail
      refine (rnew_any (s := CS.new (DS.new size sectors) frames) HX5.out (by omega) HN5.out frames HR.out).mono ?_
      rintro e w6 ⟨rfl, col6, h6, k6⟩
      have D6 : CacheAt w6 col6 2 cb db (CS.new (DS.new size sectors) frames) := H5.out.other k6
      have H6 := Lib.hid D6
      have R6 := Lib.hid (show RCacheAt w6 col6 10 w5.heap.size xb (CS.new (DS.new size sectors) frames) from h6)
      have HN6 := Lib.hid k6.norm
      have HB6 : Hid (∀ i, i < D + 1 → col6 i = 30) := fun i hi => (k6.ext i (by omega)).trans (HB5.out i hi)
      have K6 := Lib.hid (K5.out.trans (k6.chg.below (Nat.le_of_lt hlt5) (fun i hi e => by have := HB5.out i (by omega); unfold inK at e; omega)))
      have hlt6 : D < w6.heap.size := Nat.lt_of_lt_of_le hlt5 k6.chg.size
      clear h6 k6 f2 D6 H5 HX5 HN5 HB5 K5
      generalize w5.heap.size = rb at *
      unfold ptr
      go_wp2_with fail
      refine bodyPost_ret (v := .tuple #[ptr w6.heap.size, .bool true]) (by simp [results, Try.results27, go_sem, ptr, *]) rfl ?_
      unfold BeginTells
      rw [HD.out]
      have kb := (Below.refl w6.heap.size w6).alloc (Nat.le_refl _) (.cells #[ptr db, ptr xb, ptr cb, ptr rb] 71 (0, 0))
      have hext : Ext w6.heap.size col6 (fun k => if k = w6.heap.size then 20 else col6 k) := fun i hi => by show (if i = w6.heap.size then 20 else col6 i) = col6 i; rw [if_neg (by omega)]
      have hn7 : Norm (w6.alloc (.cells #[ptr db, ptr xb, ptr cb, ptr rb] 71 (0, 0))) (fun k => if k = w6.heap.size then 20 else col6 k) := fun i hi => by
        have h1 : w6.heap.size + 1 ≤ i := by simpa using hi
        show (if i = w6.heap.size then 20 else col6 i) = 0
        rw [if_neg (by omega)]; exact HN6.out i (by omega)
      refine Or.inl ⟨HF.out, HR.out, w6.heap.size, cb, db, rb, xb, fun k => if k = w6.heap.size then 20 else col6 k, rfl, ⟨?_, ?_, block_new _ _, by simp⟩, hn7, fun i hi => (hext i (by omega)).trans (HB6.out i (by omega)), K6.out.alloc (Nat.le_of_lt hlt6) _⟩
      · obtain ⟨r, m, ns, h⟩ := H6.out
        exact ⟨r, m, ns, h.keep (fun i hi _ => kb.block i hi) hext kb.size⟩
      · obtain ⟨fv, fs, h⟩ := R6.out
        exact (h.keep (fun i hi _ => kb.block i hi) hext kb.size).at
    · have HNR := Lib.hid hr
      go_wp2_with fail
      refine (newcache_no w4 db frames (by have := HNR.out; omega)).mono ?_
      rintro e w5 ⟨rfl, rfl⟩
      go_wp2_with fail
      refine (rnew_bad w4 _ (Or.inr ⟨_, rfl⟩) frames HNR.out).mono ?_
      rintro e w5 ⟨rfl, rfl⟩
      go_wp2_with fail
      refine bodyPost_ret (v := .tuple #[.pointer none, .bool true]) (by simp [results, Try.results27, go_sem, *]) rfl ?_
      refine Or.inr ⟨fun e => HNR.out e.2, rfl, ?_⟩
      rw [HD.out]; exact K3.out
end Go.Proofs.Ytjjgihaikcnjgaa
/-
  frames and pending of the laws.
-/
namespace Go.Proofs.Ytjjgihaikcnjgaa
open Go.RowKit Go.Maps
set_option linter.unusedSimpArgs false
set_option linter.unusedVariables false
set_option maxRecDepth 100000

theorem fcells_get : ∀ (l : List Frm) (j : Nat) (hj : j < l.length), (fcells l)[j * 4]? = some (.int .i64 l[j].sector) ∧ (fcells l)[j * 4 + 1]? = some (.int .i64 l[j].pins) ∧ (fcells l)[j * 4 + 2]? = some (.bool l[j].dirty) ∧ (fcells l)[j * 4 + 3]? = some (.int .u64 l[j].order)
  | [], j, hj => by simp at hj
  | f :: l, j, hj => by
    have e : fcells (f :: l) = [.int .i64 f.sector, .int .i64 f.pins, .bool f.dirty, .int .u64 f.order] ++ fcells l := rfl
    rw [e]
    cases j with
    | zero => exact ⟨rfl, rfl, rfl, rfl⟩
    | succ j =>
      obtain ⟨h0, h1, h2, h3⟩ := fcells_get l j (by simpa using hj)
      refine ⟨?_, ?_, ?_, ?_⟩
      · rw [show (j + 1) * 4 = j * 4 + 4 by omega]; simpa using h0
      · rw [show (j + 1) * 4 + 1 = j * 4 + 1 + 4 by omega]; simpa using h1
      · rw [show (j + 1) * 4 + 2 = j * 4 + 2 + 4 by omega]; simpa using h2
      · rw [show (j + 1) * 4 + 3 = j * 4 + 3 + 4 by omega]; simpa using h3
section
variable {w : World} {col : Nat → Nat} {b0 cb db rb xb : Nat} {s : CS}
set_option maxHeartbeats 8000000 in
theorem bframes_any (D : Duo w col b0 cb db rb xb s s) (hnm : Norm w col) (ok : s.Ok) :
    Calls Try.prog 29 #[ptr b0] w fun e w' => e = .returned (.bool true) ∧ Free col col w w' ∧ Duo w' col b0 cb db rb xb s s := by
  have hfl : s.frames.length ≤ 4096 := by have := ok.len; have := ok.room1; omega
  obtain ⟨-, -, d2, d3⟩ := D.cells
  have hb0 := D.lt
  have HD := Lib.hid D
  have HN := Lib.hid hnm
  have HOK := Lib.hid ok
  obtain ⟨⟨r, m, ns, hC⟩, ⟨fv, fs, hR⟩, -, -⟩ := D
  have HC := Lib.hid hC
  have HR := Lib.hid hR
  unfold ptr at *
  have KS : Hid (∀ W, Bl w W → W.cell? ⟨b0, 2, none⟩ = some (.pointer (some ⟨cb, 0, none⟩)) ∧ W.cell? ⟨b0, 3, none⟩ = some (.pointer (some ⟨rb, 0, none⟩))) := fun W k => ⟨(k.cell (p := ⟨b0, 2, none⟩) hb0).trans d2, (k.cell (p := ⟨b0, 3, none⟩) hb0).trans d3⟩
  clear hnm ok hC hR
  go_enter Try.func29, Try.ntmps29
  go_wp2_with fail
  go_region_held3 (fun W => W.cell? ⟨b0, 2, none⟩ = some (.pointer (some ⟨cb, 0, none⟩)) ∧ W.cell? ⟨b0, 3, none⟩ = some (.pointer (some ⟨rb, 0, none⟩))) (first | (with_reducible refine KS.out _ ?_; exact (by ((repeat (first | with_reducible exact Bl.refl _ | with_reducible exact k5 | with_reducible exact k6 | with_reducible refine Bl.alloc ?_ _ | with_reducible refine Bl.drew ?_)); done)))) ((first | (go_at_call 10; refine (frames_any (HC.out.below ?_) HOK.out).mono ?_; exact (by ((repeat (first | with_reducible exact Bl.refl _ | with_reducible exact k5 | with_reducible exact k6 | with_reducible refine Bl.alloc ?_ _ | with_reducible refine Bl.drew ?_)); done)); rintro e w5 ⟨⟨a5, cap5, rfl, hs5⟩, k5r⟩; (have k5 : Bl w w5 := Bl.trans (by ((repeat (first | with_reducible exact Bl.refl _ | with_reducible exact k5 | with_reducible exact k6 | with_reducible refine Bl.alloc ?_ _ | with_reducible refine Bl.drew ?_)); done)) k5r)) | (go_at_call 62; refine (rall_any (HR.out.below ?_) HOK.out).mono ?_; exact (by ((repeat (first | with_reducible exact Bl.refl _ | with_reducible exact k5 | with_reducible exact k6 | with_reducible refine Bl.alloc ?_ _ | with_reducible refine Bl.drew ?_)); done)); rintro e w6 ⟨⟨a6, cap6, rfl, hs6⟩, k6r⟩; (have k6 : Bl w w6 := Bl.trans (by ((repeat (first | with_reducible exact Bl.refl _ | with_reducible exact k5 | with_reducible exact k6 | with_reducible refine Bl.alloc ?_ _ | with_reducible refine Bl.drew ?_)); done)) k6r))))
  have hl5 : SlAt w6 (fun k => w.heap.size ≤ k ∧ k < w5.heap.size) 43 4 (.slice a5 s.frames.length cap5) s.frames.length (fcells s.frames) := (hs5.mono (fun k hk e => ⟨e, hk⟩)).below k6r
  have hm6 : RdAt w6 (fun k => w5.heap.size ≤ k) 4 (.slice a6 s.frames.length cap6) s.frames.length (fcells s.frames) := hs6.rd
  have HL5 := Lib.hid hl5
  have HM6 := Lib.hid hm6
  have K6 := Lib.hid k6
  clear k5r k6r k5 k6 hs5 hs6 hl5 hm6 KS d2 d3 HC HR
  go_wp2_with fail
  generalize hn : s.frames.length = n at *
  have HNE := Lib.hid hn
  clear hn
  go_loopw [5, 23] (fun _ v23 wr => ∃ (i : Nat) (XS : List Value), i ≤ n ∧ v23 = .int .i64 i ∧ Hid (SlAt wr (fun k => w.heap.size ≤ k ∧ k < w5.heap.size) 43 4 (.slice a5 n cap5) n XS) ∧ Hid (∀ k, i * 4 ≤ k → XS[k]? = (fcells s.frames)[k]?) ∧ Hid (RdAt wr (fun k => w5.heap.size ≤ k) 4 (.slice a6 n cap6) n (fcells s.frames)) ∧ Hid (Chg (fun k => w.heap.size ≤ k ∧ k < w5.heap.size) w6 wr)) (fun _ i _ => n - (intOf i).toNat)
  case atStart => exact ⟨0, fcells s.frames, Nat.zero_le _, rfl, HL5.out, fun k _ => rfl, HM6.out, Chg.refl _ _⟩
  case round =>
    obtain ⟨i, XS, hi, rfl, hsl, hxs, hrd, hch⟩ := hrel
    have j0 : (0 : Int) ≤ (i : Int) := by omega
    have j9 : (i : Int) ≤ 4096 := by omega
    by_cases hin : i < n
    · have j1 : (i : Int) < (n : Int) := by omega
      have hif : i < s.frames.length := by rw [HNE.out]; exact hin
      obtain ⟨g, off, rfl, hmx, hg, hc⟩ := hsl.out.rd.get (by omega)
      obtain ⟨e0, e1, e2, e3⟩ := fcells_get s.frames i hif
      have q0 := hc _ _ ((hxs.out _ (by omega)).trans e0)
      have q1 := hc _ _ ((hxs.out _ (by omega)).trans e1)
      have q2 := hc _ _ ((hxs.out _ (by omega)).trans e2)
      have q3 := hc _ _ ((hxs.out _ (by omega)).trans e3)
      obtain ⟨g', off', rfl, hmx', hg', hc'⟩ := hrd.out.get (by omega)
      have p0 := hc' _ _ e0
      have p1 := hc' _ _ e1
      have p2 := hc' _ _ e2
      have p3 := hc' _ _ e3
      rw [← Nat.add_assoc] at q1 q2 q3 p1 p2 p3
      have hxl : XS.length = n * 4 := hsl.out.rd.len
      obtain ⟨-, z0, hgo, -⟩ := hsl.out.set (i := i * 4) (by omega) (.int .i64 (-1))
      obtain ⟨-, z1, -, -⟩ := hsl.out.set (i := i * 4 + 1) (by omega) (.int .i64 0)
      obtain ⟨-, z2, -, -⟩ := hsl.out.set (i := i * 4 + 2) (by omega) (.bool false)
      obtain ⟨-, z3, -, -⟩ := hsl.out.set (i := i * 4 + 3) (by omega) (.int .u64 0)
      rw [← Nat.add_assoc] at z1 z2 z3
      clear hc hc' hmx hmx' e0 e1 e2 e3 hxl
      generalize s.frames[i] = fj at *
      obtain ⟨fsec, fp, fd, fo, fb⟩ := fj
      simp only at q0 q1 q2 q3 p0 p1 p2 p3
      go_wp2_with fail
      go_quiet (fail)
      go_wp2_with fail
      go_roundw
      case rel =>
        have hb := below_drewN (Below.refl wr.heap.size wr) nq
        have hxl : XS.length = n * 4 := hsl.out.rd.len
        obtain ⟨s0, -, hgo, -⟩ := (hsl.out.below hb).set (i := i * 4) (by omega) (.int .i64 (-1))
        obtain ⟨s1, -, -, -⟩ := s0.set (i := i * 4 + 1) (by simp; omega) (.int .i64 0)
        obtain ⟨s2, -, -, -⟩ := s1.set (i := i * 4 + 2) (by simp; omega) (.bool false)
        obtain ⟨s3, -, -, -⟩ := s2.set (i := i * 4 + 3) (by simp; omega) (.int .u64 0)
        have kk : Chg (fun k => w.heap.size ≤ k ∧ k < w5.heap.size) wr (((((wr.drewN nq).setCell ⟨g, off + i * 4, none⟩ (.int .i64 (-1))).setCell ⟨g, off + i * 4 + 1, none⟩ (.int .i64 0)).setCell ⟨g, off + i * 4 + 2, none⟩ (.bool false)).setCell ⟨g, off + i * 4 + 3, none⟩ (.int .u64 0)) :=
          ((((Chg.of_below hb).setCell _ _ (fun _ => hgo)).setCell _ _ (fun _ => hgo)).setCell _ _ (fun _ => hgo)).setCell _ _ (fun _ => hgo)
        simp only [← Nat.add_assoc] at s0 s1 s2 s3
        refine ⟨i + 1, _, by omega, by go_num, s3, fun k hk => ?_, hrd.out.chg kk (fun k e => by omega), hch.out.trans kk⟩
        rw [List.getElem?_set_ne (by omega), List.getElem?_set_ne (by omega), List.getElem?_set_ne (by omega), List.getElem?_set_ne (by omega)]
        exact hxs.out k (by omega)
      case measure => simp [intOf]; omega
    · obtain rfl : i = n := by omega
      go_wp2_with fail
      go_ret
      exact ⟨rfl, (Free.below HN.out K6.out).trans (Free.own (HN.out.grow (bl_size K6.out)) hch.out (fun i e => HN.out i e.1)), (HD.out.below K6.out).own hch.out (fun i e => HN.out i e.1)⟩
set_option maxHeartbeats 8000000 in
theorem bpending_any (D : Duo w col b0 cb db rb xb s s) (hnm : Norm w col) (ok : s.Ok) (hp : s.d.pending.length ≤ 1073690000) :
    Calls Try.prog 30 #[ptr b0] w fun e w' => e = .returned (.bool true) ∧ Free col col w w' ∧ Duo w' col b0 cb db rb xb s s := by
  obtain ⟨d0, d1, -, -⟩ := D.cells
  have hb0 := D.lt
  have HD := Lib.hid D
  have HN := Lib.hid hnm
  have HOK := Lib.hid ok
  obtain ⟨⟨r, m, ns, hC⟩, ⟨fv, fs, hR⟩, -, -⟩ := D
  obtain ⟨t, hT, eT⟩ := hR.disk
  obtain ⟨pa, pcap, qa, qn, qcap, qs, hI⟩ := hT
  have epl : t.platter = s.d.platter := by rw [← eT]; rfl
  have HDK := Lib.hid hC.disk
  have HRF := Lib.hid hR.disk
  have dpl : w.cell? ⟨xb, 2, none⟩ = some (.slice pa t.platter.length pcap) := by rw [cell_of_block hI.block]; rfl
  have hpl := hI.plat.rd
  rw [epl] at dpl hpl
  have HPL := Lib.hid hpl
  have hxb := hI.lt
  have hsl : s.d.sectors.length ≤ 1073690000 := by simpa [DS.sectors] using hp
  have HP : Hid (s.d.pending.length ≤ 1073741824) := by show _ ≤ _; omega
  unfold ptr at *
  have KS : Hid (∀ W, Bl w W → W.cell? ⟨b0, 0, none⟩ = some (.pointer (some ⟨db, 0, none⟩)) ∧ W.cell? ⟨b0, 1, none⟩ = some (.pointer (some ⟨xb, 0, none⟩)) ∧ W.cell? ⟨xb, 2, none⟩ = some (.slice pa s.d.platter.length pcap)) := fun W k => ⟨(k.cell (p := ⟨b0, 0, none⟩) hb0).trans d0, (k.cell (p := ⟨b0, 1, none⟩) hb0).trans d1, (k.cell (p := ⟨xb, 2, none⟩) hxb).trans dpl⟩
  clear hnm ok hC hR hI hpl eT epl hp
  go_enter Try.func30, Try.ntmps30
  go_wp2_with fail
  go_region_held3 (fun W => W.cell? ⟨b0, 0, none⟩ = some (.pointer (some ⟨db, 0, none⟩)) ∧ W.cell? ⟨b0, 1, none⟩ = some (.pointer (some ⟨xb, 0, none⟩))) (first | (with_reducible refine (fun h => And.intro h.1 h.2.1) (KS.out _ ?_); exact (by ((repeat (first | with_reducible exact Bl.refl _ | with_reducible exact k5 | with_reducible exact k6 | with_reducible refine Bl.alloc ?_ _ | with_reducible refine Bl.drew ?_)); done)))) ((first | (go_at_call 17; refine (pending_law _ _ _ _ _ (HDK.out.below ?_) HOK.out.d (HN.out.grow (bl_size (by ((repeat (first | with_reducible exact Bl.refl _ | with_reducible exact k5 | with_reducible exact k6 | with_reducible refine Bl.alloc ?_ _ | with_reducible refine Bl.drew ?_)); done)))) HP.out).mono ?_; exact (by ((repeat (first | with_reducible exact Bl.refl _ | with_reducible exact k5 | with_reducible exact k6 | with_reducible refine Bl.alloc ?_ _ | with_reducible refine Bl.drew ?_)); done)); rintro e w5 ⟨⟨a5, cap5, rfl, hs5⟩, k5r⟩; (have k5 : Bl w w5 := Bl.trans (by ((repeat (first | with_reducible exact Bl.refl _ | with_reducible exact k5 | with_reducible exact k6 | with_reducible refine Bl.alloc ?_ _ | with_reducible refine Bl.drew ?_)); done)) k5r)) | (go_at_call 63; refine (refpending_law (HRF.out.below ?_) (HN.out.grow (bl_size (by ((repeat (first | with_reducible exact Bl.refl _ | with_reducible exact k5 | with_reducible exact k6 | with_reducible refine Bl.alloc ?_ _ | with_reducible refine Bl.drew ?_)); done)))) HP.out).mono ?_; exact (by ((repeat (first | with_reducible exact Bl.refl _ | with_reducible exact k5 | with_reducible exact k6 | with_reducible refine Bl.alloc ?_ _ | with_reducible refine Bl.drew ?_)); done)); rintro e w6 ⟨⟨a6, cap6, rfl, hs6⟩, k6r⟩; (have k6 : Bl w w6 := Bl.trans (by ((repeat (first | with_reducible exact Bl.refl _ | with_reducible exact k5 | with_reducible exact k6 | with_reducible refine Bl.alloc ?_ _ | with_reducible refine Bl.drew ?_)); done)) k6r))))
  have hl5 : RdAt w6 (Nil0 col) 1 (.slice a5 s.d.sectors.length cap5) s.d.sectors.length (s.d.sectors.map (Value.int .i64)) := hs5.below k6r
  have HL5 := Lib.hid hl5
  have HM6 := Lib.hid hs6
  have K6 := Lib.hid k6
  have KS6 : Hid (∀ W, Bl w W → W.cell? ⟨b0, 0, none⟩ = some (.pointer (some ⟨db, 0, none⟩)) ∧ W.cell? ⟨b0, 1, none⟩ = some (.pointer (some ⟨xb, 0, none⟩)) ∧ W.cell? ⟨xb, 2, none⟩ = some (.slice pa s.d.platter.length pcap)) := KS.out
  clear k5r k6r k5 k6 hs5 hs6 hl5 KS d0 d1 dpl
  go_wp2_with fail
  generalize hn : s.d.sectors.length = n at *
  have HNE := Lib.hid hn
  clear hn
  go_loopw [5, 23] (fun _ v23 wr => ∃ (i : Nat), i ≤ n ∧ v23 = .int .i64 i ∧ Hid (Bl w6 wr)) (fun _ i _ => n - (intOf i).toNat)
  case atStart => exact ⟨0, Nat.zero_le _, rfl, Bl.refl _⟩
  case round =>
    obtain ⟨i, hi, rfl, hb⟩ := hrel
    have j0 : (0 : Int) ≤ (i : Int) := by omega
    have j9 : (i : Int) ≤ 1073690000 := by omega
    by_cases hin : i < n
    · have j1 : (i : Int) < (n : Int) := by omega
      have hif : i < s.d.sectors.length := by rw [HNE.out]; exact hin
      have e0 : (s.d.sectors.map (Value.int .i64))[i]? = some (.int .i64 s.d.sectors[i]) := by simp [hif]
      obtain ⟨g, off, rfl, hmx, hg, hc⟩ := (HL5.out.below hb.out).get (by omega)
      have q0 := hc _ _ e0
      obtain ⟨g', off', rfl, hmx', hg', hc'⟩ := (HM6.out.below hb.out).get (by omega)
      have p0 := hc' _ _ e0
      clear hc hc' hmx hmx' e0
      generalize s.d.sectors[i] = fj at *
      go_wp2_with fail
      go_quiet (fail)
      go_wp2_with fail
      go_roundw
      case rel => exact ⟨i + 1, by omega, by go_num, below_drewN hb.out _⟩
      case measure => simp [intOf]; omega
    · obtain rfl : i = n := by omega
      have kr : Bl w wr := Bl.trans K6.out hb.out
      clear hb
      go_wp2_with fail
      go_region_held3 (fun W => W.cell? ⟨b0, 0, none⟩ = some (.pointer (some ⟨db, 0, none⟩)) ∧ W.cell? ⟨b0, 1, none⟩ = some (.pointer (some ⟨xb, 0, none⟩)) ∧ W.cell? ⟨xb, 2, none⟩ = some (.slice pa s.d.platter.length pcap)) (first | (with_reducible refine KS6.out _ ?_; exact (by ((repeat (first | with_reducible exact Bl.refl _ | with_reducible exact kr | with_reducible exact k7 | with_reducible refine Bl.alloc ?_ _ | with_reducible refine Bl.drew ?_)); done)))) ((first | (go_at_call 64; refine (image_law _ _ _ _ _ (HDK.out.below ?_) HOK.out.d (HN.out.grow (bl_size (by ((repeat (first | with_reducible exact Bl.refl _ | with_reducible exact kr | with_reducible exact k7 | with_reducible refine Bl.alloc ?_ _ | with_reducible refine Bl.drew ?_)); done))))).mono ?_; exact (by ((repeat (first | with_reducible exact Bl.refl _ | with_reducible exact kr | with_reducible exact k7 | with_reducible refine Bl.alloc ?_ _ | with_reducible refine Bl.drew ?_)); done)); rintro e w7 ⟨⟨a7, cap7, rfl, hs7⟩, k7r⟩; (have k7 : Bl w w7 := Bl.trans (by ((repeat (first | with_reducible exact Bl.refl _ | with_reducible exact kr | with_reducible exact k7 | with_reducible refine Bl.alloc ?_ _ | with_reducible refine Bl.drew ?_)); done)) k7r)) | (go_at_call 21; refine (same_any _ _ _ _ _ _ (hs7.rd.below ?_) (HPL.out.below ?_)).mono ?_; exact (by ((repeat (first | with_reducible exact Bl.refl _ | with_reducible exact kr | with_reducible exact k7 | with_reducible refine Bl.alloc ?_ _ | with_reducible refine Bl.drew ?_)); done)); exact (by ((repeat (first | with_reducible exact Bl.refl _ | with_reducible exact kr | with_reducible exact k7 | with_reducible refine Bl.alloc ?_ _ | with_reducible refine Bl.drew ?_)); done)); rintro e w8 ⟨rfl, rfl⟩)))
      go_wp2_with fail
      go_ret
      exact ⟨rfl, Free.below HN.out (by ((repeat (first | with_reducible exact Bl.refl _ | with_reducible exact kr | with_reducible exact k7 | with_reducible refine Bl.alloc ?_ _ | with_reducible refine Bl.drew ?_)); done)), HD.out.below (by ((repeat (first | with_reducible exact Bl.refl _ | with_reducible exact kr | with_reducible exact k7 | with_reducible refine Bl.alloc ?_ _ | with_reducible refine Bl.drew ?_)); done))⟩
end
end Go.Proofs.Ytjjgihaikcnjgaa
/-
  The document's calls as the laws make them; what a call of the laws stands on.
-/
namespace Go.Proofs.Ytjjgihaikcnjgaa
open Go.RowKit Go.Maps
set_option linter.unusedSimpArgs false
set_option linter.unusedVariables false
set_option maxRecDepth 100000

/-- the bytes that Get and Pin tell -/
def told (r : Int × CS) : List Int := if r.1 = 0 then r.2.lastBytes else []
section
variable {w : World} {col : Nat → Nat} {c b db : Nat} {s : CS}
theorem get_law' (h : CacheAt w col c b db s) (hc : 1 < c) (hnm : Norm w col) (ok : s.Ok) (hp : s.d.pending.length ≤ 1073690000) (n : Int) (hn : i64 n) :
    Calls Try.prog 11 #[ptr b, .int .i64 n] w fun e w' => ∃ col' a cap, e = .returned (.tuple #[.slice a (told (s.fetch n)).length cap, .int .i64 (s.fetch n).1]) ∧ CacheAt w' col' c b db (s.fetch n).2 ∧ KStep c col col' w w' ∧ SlAt w' (Nil0 col') 5 1 (.slice a (told (s.fetch n)).length cap) (told (s.fetch n)).length (bcells (told (s.fetch n))) := by
  refine (get_law h hc hnm ok hp n hn).mono ?_
  rintro e w' ⟨col', h1, k1, ⟨hz, a, cap, rfl, hs⟩ | ⟨hz, rfl⟩⟩
  · refine ⟨col', a, cap, ?_, h1, k1, ?_⟩
    · unfold told; rw [if_pos hz, hz]
    · unfold told; rw [if_pos hz]; exact hs
  · refine ⟨col', none, 0, ?_, h1, k1, ?_⟩
    · unfold told; rw [if_neg hz]; rfl
    · unfold told; rw [if_neg hz]; exact SlAt.nil _ _ _ _ _
theorem pin_law' (h : CacheAt w col c b db s) (hc : 1 < c) (hnm : Norm w col) (ok : s.Ok) (hp : s.d.pending.length ≤ 1073690000) (n : Int) (hn : i64 n) :
    Calls Try.prog 12 #[ptr b, .int .i64 n] w fun e w' => ∃ col' a cap, e = .returned (.tuple #[.slice a (told (s.pin n)).length cap, .int .i64 (s.pin n).1]) ∧ CacheAt w' col' c b db (s.pin n).2 ∧ KStep c col col' w w' ∧ SlAt w' (Nil0 col') 5 1 (.slice a (told (s.pin n)).length cap) (told (s.pin n)).length (bcells (told (s.pin n))) := by
  refine (pin_law h hc hnm ok hp n hn).mono ?_
  rintro e w' ⟨col', h1, k1, ⟨hz, a, cap, rfl, hs⟩ | ⟨hz, rfl⟩⟩
  · refine ⟨col', a, cap, ?_, h1, k1, ?_⟩
    · unfold told; rw [if_pos hz, hz]
    · unfold told; rw [if_pos hz]; exact hs
  · refine ⟨col', none, 0, ?_, h1, k1, ?_⟩
    · unfold told; rw [if_neg hz]; rfl
    · unfold told; rw [if_neg hz]; exact SlAt.nil _ _ _ _ _
theorem rgets_told {r : Int × CS} {e : Ending} {w' : World} (h : RGets w col c b db r e w') : ∃ col' a cap, e = .returned (.tuple #[.slice a (told r).length cap, .int .i64 r.1]) ∧ RCacheAt w' col' c b db r.2 ∧ KStep c col col' w w' ∧ RdAt w' (Nil0 col') 1 (.slice a (told r).length cap) (told r).length (bcells (told r)) := by
  obtain ⟨col', h1, k1, ⟨hz, a, cap, rfl, hs⟩ | ⟨hz, rfl⟩⟩ := h
  · refine ⟨col', a, cap, ?_, h1, k1, ?_⟩
    · unfold told; rw [if_pos hz, hz]
    · unfold told; rw [if_pos hz]; exact hs
  · refine ⟨col', none, 0, ?_, h1, k1, ?_⟩
    · unfold told; rw [if_neg hz]; rfl
    · unfold told; rw [if_neg hz]; exact (SlAt.nil _ (Nil0 col') 5 1 _).rd
theorem rget_law (h : RCacheAt w col c b db s) (hc : 1 < c) (hnm : Norm w col) (ok : s.Ok) (hp : s.d.pending.length ≤ 1073690000) (n : Int) :
    Calls Try.prog 55 #[ptr b, .int .i64 n] w fun e w' => ∃ col' a cap, e = .returned (.tuple #[.slice a (told (s.fetch n)).length cap, .int .i64 (s.fetch n).1]) ∧ RCacheAt w' col' c b db (s.fetch n).2 ∧ KStep c col col' w w' ∧ RdAt w' (Nil0 col') 1 (.slice a (told (s.fetch n)).length cap) (told (s.fetch n)).length (bcells (told (s.fetch n))) := by
  obtain ⟨fv, fs, h⟩ := h
  exact (rget_any h hc hnm ok hp n).mono fun e w' h => rgets_told h
theorem rpin_law (h : RCacheAt w col c b db s) (hc : 1 < c) (hnm : Norm w col) (ok : s.Ok) (hp : s.d.pending.length ≤ 1073690000) (n : Int) :
    Calls Try.prog 56 #[ptr b, .int .i64 n] w fun e w' => ∃ col' a cap, e = .returned (.tuple #[.slice a (told (s.pin n)).length cap, .int .i64 (s.pin n).1]) ∧ RCacheAt w' col' c b db (s.pin n).2 ∧ KStep c col col' w w' ∧ RdAt w' (Nil0 col') 1 (.slice a (told (s.pin n)).length cap) (told (s.pin n)).length (bcells (told (s.pin n))) := by
  obtain ⟨fv, fs, h⟩ := h
  exact (rpin_any h hc hnm ok hp n).mono fun e w' h => rgets_told h
theorem runpin_law (h : RCacheAt w col c b db s) (hc : 1 < c) (hnm : Norm w col) (ok : s.Ok) (n : Int) :
    Calls Try.prog 57 #[ptr b, .int .i64 n] w fun e w' => RTells w col c b db (s.unpin n) e w' := by
  obtain ⟨fv, fs, h⟩ := h
  exact runpin_any h hc hnm ok n
theorem rupto_law (h : RCacheAt w col c b db s) (hc : 1 < c) (hnm : Norm w col) (ok : s.Ok) (hp : s.d.pending.length ≤ 1073690000) (o : Int) :
    Calls Try.prog 59 #[ptr b, .int .u64 o] w fun e w' => e = .returned (.int .i64 0) ∧ RNow w col c b db (s.upTo o) w' := by
  obtain ⟨fv, fs, h⟩ := h
  exact rupto_any h hc hnm ok (by omega) o
theorem rsync_law (h : RCacheAt w col c b db s) (hc : 1 < c) (hnm : Norm w col) (ok : s.Ok) (hp : s.d.pending.length ≤ 1073690000) :
    Calls Try.prog 60 #[ptr b] w fun e w' => e = .returned (.int .i64 0) ∧ RNow w col c b db s.sync w' := by
  obtain ⟨fv, fs, h⟩ := h
  exact rsync_any h hc hnm ok hp
theorem rdrop_law (h : RCacheAt w col c b db s) (hc : 1 < c) (hnm : Norm w col) (ok : s.Ok) (hp0 : ∀ f ∈ s.frames, 0 ≤ f.pins) :
    Calls Try.prog 61 #[ptr b] w fun e w' => e = .returned (.int .i64 ((s.frames.length : Int) - s.drop.frames.length)) ∧ RNow w col c b db s.drop w' := by
  obtain ⟨fv, fs, h⟩ := h
  exact rdrop_any h hc hnm ok hp0
theorem rput_law (h : RCacheAt w col c b db s) (hc : 1 < c) (hnm : Norm w col) (ok : s.Ok) (hp : s.d.pending.length ≤ 1073690000) (n : Int) (v : Value) (l : List Int) (o : Int) (ho : 0 ≤ o ∧ o ≤ 18446744073709551615) (hv : RdAt w (Nil0 col) 1 v l.length (bcells l)) :
    Calls Try.prog 58 #[ptr b, .int .i64 n, v, .int .u64 o] w fun e w' => RTells w col c b db (s.put n l o) e w' := by
  obtain ⟨fv, fs, h⟩ := h
  by_cases hf : 0 ≤ n ∧ n < s.d.count ∧ (l.length : Int) = s.d.size
  · exact rput_ok h hc hnm ok hp n v l o ho hv hf
  · exact rput_bad h hnm n v l o hv hf
end
def opv (o : OpC) : Value := .agg #[.int .i64 o.kind, .int .i64 o.sector, .int .u8 o.fill, .int .i64 o.short, .int .u64 o.order]
def opC (o : OpC) : Obj := .cells #[.int .i64 o.kind, .int .i64 o.sector, .int .u8 o.fill, .int .i64 o.short, .int .u64 o.order] 31
section
variable {w : World} {col : Nat → Nat} {b0 cb db rb xb : Nat} {s t : CS}
theorem Duo.boxed (h : Duo w col b0 cb db rb xb s t) (hnm : Norm w col) (o : OpC) : ∃ col1, col1 w.heap.size = 20 ∧ Duo (w.alloc (opC o)) col1 b0 cb db rb xb s t ∧ Free col col1 w (w.alloc (opC o)) := by
  have kb := (Below.refl w.heap.size w).alloc (Nat.le_refl _) (opC o)
  have hext : Ext w.heap.size col (fun k => if k = w.heap.size then 20 else col k) := fun i hi => by show (if i = w.heap.size then 20 else col i) = col i; rw [if_neg (by omega)]
  have hlt := h.lt
  obtain ⟨⟨r, m, ns, h1⟩, ⟨fv, fs, h2⟩, h3, h4⟩ := h
  refine ⟨fun k => if k = w.heap.size then 20 else col k, by simp, ⟨⟨r, m, ns, h1.keep (fun i hi _ => kb.block i hi) hext kb.size⟩, (h2.keep (fun i hi _ => kb.block i hi) hext kb.size).at, below_keeps kb h3 hlt, (hext _ hlt).trans h4⟩, hext, Chg.of_below kb, fun i hi => ?_⟩
  have hh : w.heap.size + 1 ≤ i := by simpa using hi
  show (if i = w.heap.size then 20 else col i) = 0
  rw [if_neg (by omega)]; exact hnm i (by omega)
def DoesTells (w : World) (col : Nat → Nat) (b0 cb db rb xb : Nat) (t : CS) (e : Ending) (w' : World) : Prop := e = .returned (.bool true) ∧ ∃ col', Free col col' w w' ∧ Duo w' col' b0 cb db rb xb t t
/-- what a call stands on: the cells of both and of its own argument -/
structure Stand (W : World) (b0 cb db rb xb O : Nat) (o : OpC) : Prop where
  c0 : W.cell? ⟨b0, 0, none⟩ = some (.pointer (some ⟨db, 0, none⟩))
  c1 : W.cell? ⟨b0, 1, none⟩ = some (.pointer (some ⟨xb, 0, none⟩))
  c2 : W.cell? ⟨b0, 2, none⟩ = some (.pointer (some ⟨cb, 0, none⟩))
  c3 : W.cell? ⟨b0, 3, none⟩ = some (.pointer (some ⟨rb, 0, none⟩))
  o1 : W.cell? ⟨O, 1, none⟩ = some (.int .i64 o.sector)
  o2 : W.cell? ⟨O, 2, none⟩ = some (.int .u8 o.fill)
  o3 : W.cell? ⟨O, 3, none⟩ = some (.int .i64 o.short)
  o4 : W.cell? ⟨O, 4, none⟩ = some (.int .u64 o.order)
theorem Stand.free {w w' : World} {col col' : Nat → Nat} {O : Nat} {o : OpC} (h : Stand w b0 cb db rb xb O o) (hb : col b0 = 20) (hO : col O = 20) (k : Free col col' w w') : Stand w' b0 cb db rb xb O o :=
  ⟨k.cell h.c0 (Or.inl hb), k.cell h.c1 (Or.inl hb), k.cell h.c2 (Or.inl hb), k.cell h.c3 (Or.inl hb), k.cell h.o1 (Or.inl hO), k.cell h.o2 (Or.inl hO), k.cell h.o3 (Or.inl hO), k.cell h.o4 (Or.inl hO)⟩
theorem Duo.stand {o : OpC} (h : Duo (w.alloc (opC o)) col b0 cb db rb xb s t) : Stand (w.alloc (opC o)) b0 cb db rb xb w.heap.size o := by
  obtain ⟨d0, d1, d2, d3⟩ := h.cells
  have hb := block_new w (opC o)
  refine ⟨d0, d1, d2, d3, ?_, ?_, ?_, ?_⟩ <;> (rw [cell_of_block hb]; rfl)
end
end Go.Proofs.Ytjjgihaikcnjgaa
