/-
  The document's cache as it lies in memory; its find.
-/
import Derived.Test.YtjjgihaikcnjgaaCSameP
import Derived.Test.YtjjgihaikcnjgaaCLaw2
import Derived.Test.YtjjgihaikcnjgaaDRefLaw
import Derived.Test.YtjjgihaikcnjgaaSub
namespace Go.Proofs.Ytjjgihaikcnjgaa
open Go.RowKit Go.Maps
set_option linter.unusedSimpArgs false
set_option linter.unusedVariables false
set_option maxRecDepth 100000

/-- a frame's cells -/
def rc (f : Frm) (v : Value) : List Value := [.int .i64 f.sector, .int .i64 f.pins, .bool f.dirty, .int .u64 f.order, v]
def rcells : List (Frm × Value) → List Value
  | [] => []
  | p :: fs => rc p.1 p.2 ++ rcells fs
theorem rcells_len : ∀ (fs : List (Frm × Value)), (rcells fs).length = fs.length * 5
  | [] => rfl
  | p :: fs => by simp [rcells, rc, rcells_len fs]; omega
theorem rcells_append : ∀ (a b : List (Frm × Value)), rcells (a ++ b) = rcells a ++ rcells b
  | [], b => rfl
  | p :: a, b => by simp [rcells, rcells_append a b]
theorem rcells_take : ∀ (fs : List (Frm × Value)) (j : Nat), (rcells fs).take (j * 5) = rcells (fs.take j)
  | [], j => by simp [rcells]
  | p :: fs, 0 => by simp [rcells]
  | p :: fs, j + 1 => by
    have e : (j + 1) * 5 = j * 5 + 5 := by omega
    rw [e]
    simp [rcells, rc, rcells_take fs j]
theorem rcells_drop : ∀ (fs : List (Frm × Value)) (j : Nat), (rcells fs).drop (j * 5) = rcells (fs.drop j)
  | [], j => by simp [rcells]
  | p :: fs, 0 => by simp
  | p :: fs, j + 1 => by
    have e : (j + 1) * 5 = j * 5 + 5 := by omega
    rw [e]
    simp [rcells, rc, rcells_drop fs j]
theorem rcells_get : ∀ (fs : List (Frm × Value)) (j : Nat) (hj : j < fs.length), (rcells fs)[j * 5]? = some (.int .i64 fs[j].1.sector) ∧ (rcells fs)[j * 5 + 1]? = some (.int .i64 fs[j].1.pins) ∧ (rcells fs)[j * 5 + 2]? = some (.bool fs[j].1.dirty) ∧ (rcells fs)[j * 5 + 3]? = some (.int .u64 fs[j].1.order) ∧ (rcells fs)[j * 5 + 4]? = some fs[j].2
  | p :: fs, 0, _ => ⟨rfl, rfl, rfl, rfl, rfl⟩
  | p :: fs, j + 1, hj => by
    obtain ⟨h0, h1, h2, h3, h4⟩ := rcells_get fs j (by simpa using hj)
    have e : rcells (p :: fs) = rc p.1 p.2 ++ rcells fs := rfl
    have e5 : (rc p.1 p.2).length = 5 := rfl
    have g : ∀ k, (rcells (p :: fs))[(j + 1) * 5 + k]? = (rcells fs)[j * 5 + k]? := fun k => by
      rw [e, List.getElem?_append_right (by rw [e5]; omega), e5]; congr 1; omega
    refine ⟨?_, ?_, ?_, ?_, ?_⟩
    · have := g 0; simp only [Nat.add_zero] at this; rw [this]; simpa using h0
    · rw [g]; simpa using h1
    · rw [g]; simpa using h2
    · rw [g]; simpa using h3
    · rw [g]; simpa using h4
theorem rcells_one : ∀ (fs : List (Frm × Value)), (∀ p ∈ fs, p.2.oneCell' = true) → ∀ u ∈ rcells fs, u.oneCell' = true
  | [], _, u, hu => by simp [rcells] at hu
  | p :: fs, h, u, hu => by
    rcases List.mem_append.1 hu with hu | hu
    · have := h p (by simp)
      simp only [rc, List.mem_cons, List.not_mem_nil, or_false] at hu
      rcases hu with rfl | rfl | rfl | rfl | rfl <;> first | rfl | exact this
    · exact rcells_one fs (fun q hq => h q (by simp [hq])) u hu
theorem rcells_sets : ∀ (fs : List (Frm × Value)) (j : Nat) (hj : j < fs.length) (k : Nat) (u : Value) (q : Frm × Value), (rc fs[j].1 fs[j].2).set k u = rc q.1 q.2 → k < 5 → (rcells fs).set (j * 5 + k) u = rcells (fs.set j q)
  | p :: fs, 0, _, k, u, q, h, hk => by
    have e : rcells (p :: fs) = rc p.1 p.2 ++ rcells fs := rfl
    rw [e, List.set_append_left _ _ (by simp [rc]; omega)]
    simp only [Nat.zero_mul, Nat.zero_add]
    rw [show rcells ((p :: fs).set 0 q) = rc q.1 q.2 ++ rcells fs from rfl, ← h]; rfl
  | p :: fs, j + 1, hj, k, u, q, h, hk => by
    have e : rcells (p :: fs) = rc p.1 p.2 ++ rcells fs := rfl
    rw [e, List.set_append_right _ _ (by simp [rc]; omega)]
    have e2 : (j + 1) * 5 + k - (rc p.1 p.2).length = j * 5 + k := by simp [rc]; omega
    rw [e2, rcells_sets fs j (by simpa using hj) k u q (by simpa using h) hk]
    rfl
/-- one cell of a slice is set -/
theorem SlAt.set {w : World} {own : Nat → Prop} {e : TypeId} {size n g off cap : Nat} {xs : List Value} (h : SlAt w own e size (.slice (some ⟨g, off, none⟩) n cap) n xs) {i : Nat} (hi : i < xs.length) (u : Value) :
    SlAt (w.setCell ⟨g, off + i, none⟩ u) own e size (.slice (some ⟨g, off, none⟩) n cap) n (xs.set i u) ∧ w.frozen? ⟨g, off + i, none⟩ = false ∧ own g ∧ g < w.heap.size := by
  obtain ⟨h1, h2⟩ := h
  rcases h2 with ⟨a, e1, e2⟩ | ⟨g', off', cap', cur, e1, ho, hh, h3, h4, h5, h6⟩
  · rw [h1, e2, Nat.zero_mul] at hi; omega
  · obtain ⟨e2, -, e3⟩ := Value.slice.inj e1
    simp only [Option.some.injEq, Addr.mk.injEq, and_true] at e2
    obtain ⟨rfl, rfl⟩ := e2
    subst e3
    refine ⟨⟨by simpa using h1, Or.inr ⟨g, off, cap, _, rfl, ho, block_set hh _ _, h3, h4, by simpa using h5, ?_⟩⟩, free_of_block hh _, ho, lt_of_block hh⟩
    have hb : n * size ≤ cap * size := Nat.mul_le_mul_right _ h3
    rw [Array.toList_setIfInBounds, ← h6]
    apply List.ext_getElem?
    intro j
    have hxl : i < n * size := by rw [← h1]; exact hi
    simp only [List.getElem?_take, List.getElem?_drop, List.getElem?_set, List.length_take, List.length_drop, Array.length_toList]
    by_cases hj : j < n * size
    · rw [if_pos hj]
      by_cases e : i = j
      · subst e
        rw [if_pos rfl, if_pos rfl, if_pos (by omega), if_pos (by omega)]
      · rw [if_neg (by omega), if_neg e, if_pos hj]
    · rw [if_neg hj]
      by_cases e : i = j
      · omega
      · rw [if_neg e, if_neg hj]

def rcacheC (db : Nat) (s : CS) (v : Value) : Array Value := #[ptr db, .int .i64 s.room, v, .int .i64 s.hits, .int .i64 s.misses, .int .i64 s.writes, .int .i64 s.gone]
/-- the document's cache -/
structure RCacheIn (w : World) (col : Nat → Nat) (c b : Nat) (s : CS) (db : Nat) (fv : Value) (fs : List (Frm × Value)) : Prop where
  block : w.heap[b]? = some (.cells (rcacheC db s fv) 74 (0, 0))
  cb : col b = c + 3
  disk : RefAt w col c db s.d
  fr : fs.map Prod.fst = s.frames
  list : SlAt w (fun k => col k = c + 4) 121 5 fv fs.length (rcells fs)
  bytes : ∀ p ∈ fs, BytesAt w (fun k => col k = 1) p.2 p.1.bytes
def RCacheAt (w : World) (col : Nat → Nat) (c b db : Nat) (s : CS) : Prop := ∃ fv fs, RCacheIn w col c b s db fv fs
section
variable {w : World} {col : Nat → Nat} {c b db : Nat} {s : CS} {fv : Value} {fs : List (Frm × Value)}
theorem RCacheIn.lt (h : RCacheIn w col c b s db fv fs) : b < w.heap.size := lt_of_block h.block
theorem RCacheIn.keep {w' : World} {col' : Nat → Nat} (h : RCacheIn w col c b s db fv fs) (hk : ∀ k, k < w.heap.size → (col k = 1 ∨ inK col c k) → w'.heap[k]? = w.heap[k]?) (ho : Ext w.heap.size col col') (hs : w.heap.size ≤ w'.heap.size) : RCacheIn w' col' c b s db fv fs := by
  obtain ⟨t, hd, e⟩ := h.disk
  refine ⟨(hk b h.lt (Or.inr (by unfold inK; have := h.cb; omega))).trans h.block, by rw [ho b h.lt]; exact h.cb, ⟨t, hd.keep (fun k hk' e => hk k hk' (e.imp id (fun e => by unfold inC at e; unfold inK; omega))) ho hs, e⟩, h.fr, h.list.keep (fun k hk' e => hk k hk' (Or.inr (by unfold inK; omega))) (fun k hk' e => by rw [ho k hk']; exact e), fun p hp => (h.bytes p hp).keep (fun k hk' e => hk k hk' (Or.inl e)) (fun k hk' e => by rw [ho k hk']; exact e) hs⟩
theorem RCacheIn.below {w' : World} (h : RCacheIn w col c b s db fv fs) (k : Below w.heap.size w w') : RCacheIn w' col c b s db fv fs := h.keep (fun i hi _ => k.block i hi) (Ext.refl _ _) k.size
theorem RCacheIn.other {w' : World} {col' : Nat → Nat} {d : Nat} (h : RCacheIn w col c b s db fv fs) (k : KStep d col col' w w') (hd : c + 4 < d ∨ d + 4 < c) (h1 : 1 < d) : RCacheIn w' col' c b s db fv fs :=
  h.keep (fun i hi e => k.chg.block i hi (fun e' => by unfold inK at e e'; omega)) k.ext k.chg.size
theorem RCacheIn.len (h : RCacheIn w col c b s db fv fs) : fs.length = s.frames.length := by rw [← h.fr, List.length_map]
theorem RCacheIn.at (h : RCacheIn w col c b s db fv fs) : RCacheAt w col c b db s := ⟨fv, fs, h⟩
theorem cells_r (h : w.heap[b]? = some (.cells (rcacheC db s fv) 74 (0, 0))) : w.cell? ⟨b, 0, none⟩ = some (ptr db) ∧ w.cell? ⟨b, 1, none⟩ = some (.int .i64 s.room) ∧ w.cell? ⟨b, 2, none⟩ = some fv ∧ w.cell? ⟨b, 3, none⟩ = some (.int .i64 s.hits) ∧ w.cell? ⟨b, 4, none⟩ = some (.int .i64 s.misses) ∧ w.cell? ⟨b, 5, none⟩ = some (.int .i64 s.writes) ∧ w.cell? ⟨b, 6, none⟩ = some (.int .i64 s.gone) := by
  refine ⟨?_, ?_, ?_, ?_, ?_, ?_, ?_⟩ <;> (rw [cell_of_block h]; rfl)
/-- the cells of the j-th frame -/
theorem rframe_cells {own : Nat → Prop} {a : Option Addr} {n cap : Nat} (hn : n = fs.length) (h : RdAt w own 5 (.slice a n cap) n (rcells fs)) {j : Nat} (hj : j < fs.length) :
    ∃ g off, a = some ⟨g, off, none⟩ ∧ g < w.heap.size ∧ w.cell? ⟨g, off + j * 5, none⟩ = some (.int .i64 fs[j].1.sector) ∧ w.cell? ⟨g, off + j * 5 + 1, none⟩ = some (.int .i64 fs[j].1.pins) ∧ w.cell? ⟨g, off + j * 5 + 2, none⟩ = some (.bool fs[j].1.dirty) ∧ w.cell? ⟨g, off + j * 5 + 3, none⟩ = some (.int .u64 fs[j].1.order) ∧ w.cell? ⟨g, off + j * 5 + 4, none⟩ = some fs[j].2 := by
  subst hn
  obtain ⟨g, off, rfl, _, hg, hc⟩ := h.get (by omega)
  obtain ⟨h0, h1, h2, h3, h4⟩ := rcells_get fs j hj
  refine ⟨g, off, rfl, hg, hc _ _ h0, ?_, ?_, ?_, ?_⟩
  · rw [Nat.add_assoc]; exact hc _ _ h1
  · rw [Nat.add_assoc]; exact hc _ _ h2
  · rw [Nat.add_assoc]; exact hc _ _ h3
  · rw [Nat.add_assoc]; exact hc _ _ h4
theorem RCacheIn.shape (h : RCacheIn w col c b s db fv fs) : ∃ a cap, fv = .slice a fs.length cap := by
  obtain ⟨a, cap, e, _⟩ := h.list.rd.shape
  exact ⟨a, cap, e⟩
theorem RCacheIn.shapes (h : RCacheIn w col c b s db fv fs) : ∀ p ∈ fs, ∃ a cap, p.2 = .slice a p.1.bytes.length cap := fun p hp => (h.bytes p hp).shape
/-- a sector's frame's place; none: -1 -/
def placeOf (l : List Frm) (n : Int) : Int := match l.findIdx? (Frm.is n) with | some j => j | none => -1
theorem placeOf_hit {l : List Frm} {n : Int} {j : Nat} (hj : j < l.length) (h : ∀ i (hi : i < j), Frm.is n (l[i]'(by omega)) = false) (hp : Frm.is n l[j] = true) : placeOf l n = j := by
  have e : l.findIdx? (Frm.is n) = some j := List.findIdx?_eq_some_iff_getElem.2 ⟨hj, hp, fun i hi => by rw [h i hi]; simp⟩
  unfold placeOf; rw [e]
theorem placeOf_none {l : List Frm} {n : Int} (h : ∀ i (hi : i < l.length), Frm.is n l[i] = false) : placeOf l n = -1 := by
  have e : l.findIdx? (Frm.is n) = none := by
    rw [List.findIdx?_eq_none_iff]
    intro f hf
    obtain ⟨i, hi, rfl⟩ := List.getElem_of_mem hf
    exact h i hi
  unfold placeOf; rw [e]
theorem place_look {s : CS} (ok : s.Ok) (n : Int) : (s.look n = none ∧ placeOf s.frames n = -1) ∨ ∃ j, ∃ h : j < s.frames.length, s.look n = some s.frames[j] ∧ placeOf s.frames n = j ∧ s.frames[j].sector = n := by
  cases hl : s.look n with
  | none => exact Or.inl ⟨rfl, placeOf_none (fun i hi => by have := look_none hl _ (List.getElem_mem hi); simpa [Frm.is] using this)⟩
  | some f =>
    obtain ⟨hf, e⟩ := look_some hl
    obtain ⟨j, hj, rfl⟩ := List.getElem_of_mem hf
    refine Or.inr ⟨j, hj, rfl, placeOf_hit hj (fun i hi => ?_) (by simp [Frm.is, e]), e⟩
    have hn := ok.nodup
    have := (List.pairwise_iff_getElem.1 hn) i j (by simp; omega) (by simpa using hj) hi
    simp at this
    simpa [Frm.is, ← e] using this
set_option maxHeartbeats 2000000 in
theorem rfind_any (h : RCacheIn w col c b s db fv fs) (ok : s.Ok) (n : Int) :
    Calls Try.prog 76 #[ptr b, .int .i64 n] w fun e w' => e = .returned (.int .i64 (placeOf s.frames n)) ∧ Below w.heap.size w w' := by
  obtain ⟨-, -, b2, -, -, -, -⟩ := cells_r h.block
  obtain ⟨a, cap, rfl⟩ := h.shape
  have HL := Lib.hid h.list.rd
  have hlen : fs.length ≤ 4096 := by have := h.len; have := ok.len; have := ok.room1; omega
  have HFR := Lib.hid h.fr
  have HBY := Lib.hid h.shapes
  have hbl := h.lt
  clear h ok
  unfold ptr
  go_enter Try.func76, Try.ntmps76
  go_wp2_with fail
  go_loopw [12] (fun i wr => ∃ j : Nat, j ≤ fs.length ∧ i = .int .i64 j ∧ Hid (∀ i (hi : i < j) (hi2 : i < s.frames.length), Frm.is n s.frames[i] = false) ∧ Below w.heap.size w wr) (fun i _ => fs.length - (intOf i).toNat)
  case atStart => exact ⟨0, Nat.zero_le _, rfl, fun i hi => by omega, Below.refl _ _⟩
  case round =>
    obtain ⟨j, hj, rfl, hno, hb⟩ := hrel
    have j0 : (0 : Int) ≤ (j : Int) := by omega
    have j9 : (j : Int) ≤ 4096 := by omega
    by_cases hjn : j < fs.length
    · have j1 : (j : Int) < (fs.length : Int) := by omega
      obtain ⟨g, off, rfl, hg, q0, q1, q2, q3, q4⟩ := rframe_cells rfl (HL.out.below hb) hjn
      have HB := Lib.hid hb
      have hjs : j < s.frames.length := by rw [← HFR.out, List.length_map]; exact hjn
      have hej : s.frames[j] = fs[j].1 := by simp [← HFR.out]
      have HHIT : Hid (Frm.is n s.frames[j] = true → placeOf s.frames n = j) := fun hp => placeOf_hit hjs (fun i hi => hno.out i hi (by omega)) hp
      have HNEXT : Hid (Frm.is n s.frames[j] = false → ∀ i (hi : i < j + 1) (hi2 : i < s.frames.length), Frm.is n s.frames[i] = false) := fun hp i hi hi2 => by
        by_cases e : i = j
        · subst e; exact hp
        · exact hno.out i (by omega) hi2
      rw [hej] at HHIT HNEXT
      obtain ⟨av, cv, ev⟩ := HBY.out _ (List.getElem_mem hjn)
      clear hb hno hej hjs b2
      generalize fs[j] = fj at *
      obtain ⟨⟨fsec, fp, fd, fo, fb⟩, fv⟩ := fj
      simp only at q0 q1 q2 q3 q4 ev
      subst ev
      cases hs : (fsec == n) with
      | false =>
        have HN := Lib.hid (HNEXT.out hs)
        clear HHIT HNEXT
        go_wp2_with fail
        go_roundw
        case rel => exact ⟨j + 1, by omega, by go_num, HN.out, HB.out.alloc HB.out.size _⟩
        case measure => simp [intOf]; omega
      | true =>
        have HH := Lib.hid (HHIT.out hs)
        clear HHIT HNEXT
        go_wp2_with fail
        go_ret
        rw [HH.out]
        exact ⟨rfl, HB.out.alloc HB.out.size _⟩
    · have HH := Lib.hid (placeOf_none (l := s.frames) (n := n) (fun i hi => hno.out i (by have := congrArg List.length HFR.out; simp at this; omega) hi))
      have HB := Lib.hid hb
      obtain rfl : j = fs.length := by omega
      clear hb hno
      go_wp2_with fail
      go_ret
      rw [HH.out]
      exact ⟨rfl, HB.out⟩
end
end Go.Proofs.Ytjjgihaikcnjgaa
/-
  The document's cache: without, use.
-/
namespace Go.Proofs.Ytjjgihaikcnjgaa
open Go.RowKit Go.Maps
set_option linter.unusedSimpArgs false
set_option linter.unusedVariables false
set_option maxRecDepth 100000

theorem info121 : (Try.prog.info? 121).map (fun i => (i.zero, i.size, i.bytes)) = some (some (.agg #[.int .i64 0, .int .i64 0, .bool false, .int .u64 0, .slice none 0 0]), 5, 56) := by kernel_rfl
abbrev Bl (a b : World) : Prop := Below a.heap.size a b
theorem Bl.refl (a : World) : Bl a a := Below.refl _ _
theorem Bl.trans {a b c : World} (h : Bl a b) (k : Bl b c) : Bl a c := Below.trans h (Below.mono k h.size)
theorem Bl.alloc {a b : World} (h : Bl a b) (o : Obj) : Bl a (b.alloc o) := Below.alloc h h.size o
theorem Bl.drew {a b : World} (h : Bl a b) : Bl a b.drew := Below.drew h
theorem bl_size {a b : World} (h : Bl a b) : a.heap.size ≤ b.heap.size := h.size
section
variable {w : World} {col : Nat → Nat} {c b db : Nat} {s : CS} {fv : Value} {fs : List (Frm × Value)}
theorem rcells_ok (h : RCacheIn w col c b s db fv fs) : ∀ u ∈ rcells fs, u.oneCell' = true := rcells_one fs (fun p hp => by obtain ⟨a, cap, e⟩ := h.shapes p hp; rw [e]; rfl)
theorem take_drop_cells (fs : List (Frm × Value)) (i : Nat) : (rcells fs).take (i * 5) ++ (rcells fs).drop ((i + 1) * 5) = rcells (fs.eraseIdx i) := by
  rw [rcells_take, rcells_drop, ← rcells_append, List.eraseIdx_eq_take_drop_succ]
set_option maxHeartbeats 4000000 in
theorem rwithout_any (h : RCacheIn w col c b s db fv fs) (ok : s.Ok) {i : Nat} (hi : i < fs.length) :
    Calls Try.prog 93 #[ptr b, .int .i64 i] w fun e w' => (∃ v, e = .returned v ∧ SlAt w' (fun k => w.heap.size ≤ k) 121 5 v (fs.length - 1) (rcells (fs.eraseIdx i))) ∧ Below w.heap.size w w' := by
  obtain ⟨i0, hi0, hz0, hz1, hz2⟩ := info_parts info121
  obtain ⟨-, -, b2, -, -, -, -⟩ := cells_r h.block
  obtain ⟨a, cap, rfl⟩ := h.shape
  have HL := Lib.hid h.list.rd
  have hlen : fs.length ≤ 4096 := by have := h.len; have := ok.len; have := ok.room1; omega
  have HONE := Lib.hid (rcells_ok h)
  have hbl := h.lt
  obtain ⟨p1, c1, hrun1, hr1⟩ := slice_to Try.underlying72 hi0 hz1 HL.out (k := i) (by omega)
  obtain ⟨p2, c2, hrun2, hr2⟩ := slice_from Try.underlying72 hi0 hz1 HL.out (k := i + 1) (by omega)
  have hrun3 : ∀ W, (Instr.slice 72 (.slice a fs.length cap) (some (.int .i64 ((i : Int) + 1))) none none).run Try.prog W = .ok (.slice p2 (fs.length - (i + 1)) c2) W := hrun2
  have j0 : (0 : Int) ≤ (i : Int) := by omega
  have j1 : (i : Int) ≤ 4096 := by omega
  have hw1 : IntKind.i64.wrap ((i : Int) + 1) = (i : Int) + 1 := IntWalk.i64_in _ (by omega)
  have H1 : Hid (∀ u ∈ rcells (fs.take i), u.oneCell' = true) := fun u hu => HONE.out u (by rw [← rcells_take] at hu; exact List.mem_of_mem_take hu)
  have H2 : Hid (∀ u ∈ rcells (fs.drop (i + 1)), u.oneCell' = true) := fun u hu => HONE.out u (by rw [← rcells_drop] at hu; exact List.mem_of_mem_drop hu)
  have KC : Hid (∀ W, Bl w W → W.cell? ⟨b, 2, none⟩ = some (.slice a fs.length cap)) := fun W k => (k.cell (p := ⟨b, 2, none⟩) hbl).trans b2
  rw [rcells_take] at hr1
  rw [rcells_drop] at hr2
  have HR1 := Lib.hid hr1
  have HR2 := Lib.hid hr2
  clear h ok hrun2 hr1 hr2 HONE
  unfold ptr
  go_enter Try.func93, Try.ntmps93
  go_wp2_with fail
  go_region_held3 (fun W => W.cell? ⟨b, 2, none⟩ = some (.slice a fs.length cap)) (first | exact KC.out _ (by ((repeat (first | with_reducible exact Bl.refl _ | with_reducible exact k6 | with_reducible exact k7 | with_reducible refine Bl.alloc ?_ _ | with_reducible refine Bl.drew ?_)); done))) ((first | (refine step_append_sl rfl (.tmp 5) (.tmp 11) 72 rfl 121 i0 (.agg #[.int .i64 0, .int .i64 0, .bool false, .int .u64 0, .slice none 0 0]) 5 56 Try.underlying72 hi0 hz0 hz1 hz2 rfl (fun _ => False) _ 0 [] rfl (SlAt.nil _ _ _ _ _) (fun k => col k = c + 4) _ i (rcells (fs.take i)) rfl ?_ (H1.out) ?_ ?_ ?_; exact RdAt.below HR1.out (by ((repeat (first | with_reducible exact Bl.refl _ | with_reducible exact k6 | with_reducible exact k7 | with_reducible refine Bl.alloc ?_ _ | with_reducible refine Bl.drew ?_)); done)); (unfold maxLen; omega); omega; intro v6 w6 hs6 hc6; rw [Nat.zero_add, List.nil_append] at hs6; obtain ⟨a6, cap6, rfl⟩ := hs6.shape; (have k6 : Bl w w6 := Bl.trans (by ((repeat (first | with_reducible exact Bl.refl _ | with_reducible exact k6 | with_reducible exact k7 | with_reducible refine Bl.alloc ?_ _ | with_reducible refine Bl.drew ?_)); done)) (hc6.below (Nat.le_refl _) (fun _ _ e => e))); (have r6 : SlAt w6 (fun k => w.heap.size ≤ k) 121 5 (.slice a6 i cap6) i (rcells (fs.take i)) := hs6.mono (fun k hk e => by rcases e with e | e; exact e.elim; rw [e]; exact bl_size (by ((repeat (first | with_reducible exact Bl.refl _ | with_reducible exact k6 | with_reducible exact k7 | with_reducible refine Bl.alloc ?_ _ | with_reducible refine Bl.drew ?_)); done))))) | (refine step_append_sl rfl (.tmp 12) (.tmp 19) 72 rfl 121 i0 (.agg #[.int .i64 0, .int .i64 0, .bool false, .int .u64 0, .slice none 0 0]) 5 56 Try.underlying72 hi0 hz0 hz1 hz2 rfl (fun k => w.heap.size ≤ k) _ i (rcells (fs.take i)) rfl ?_ (fun k => col k = c + 4) _ (fs.length - (i + 1)) (rcells (fs.drop (i + 1))) rfl ?_ (H2.out) ?_ ?_ ?_; exact r6.below (by ((repeat (first | with_reducible exact Bl.refl _ | with_reducible refine Bl.alloc ?_ _ | with_reducible refine Bl.drew ?_)); done)); exact RdAt.below HR2.out (by ((repeat (first | with_reducible exact Bl.refl _ | with_reducible exact k6 | with_reducible exact k7 | with_reducible refine Bl.alloc ?_ _ | with_reducible refine Bl.drew ?_)); done)); (unfold maxLen; omega); omega; intro v7 w7 hs7 hc7; obtain ⟨a7, cap7, rfl⟩ := hs7.shape; (have k7 : Bl w w7 := Below.trans (by ((repeat (first | with_reducible exact Bl.refl _ | with_reducible exact k6 | with_reducible exact k7 | with_reducible refine Bl.alloc ?_ _ | with_reducible refine Bl.drew ?_)); done)) (hc7.below (bl_size (by ((repeat (first | with_reducible exact Bl.refl _ | with_reducible exact k6 | with_reducible exact k7 | with_reducible refine Bl.alloc ?_ _ | with_reducible refine Bl.drew ?_)); done))) (fun i hi e => by omega))))))
  all_goals go_wp2_with fail
  all_goals go_ret
  all_goals
    have e : i + (fs.length - (i + 1)) = fs.length - 1 := by omega
    refine ⟨⟨.slice a7 (i + (fs.length - (i + 1))) cap7, rfl, ?_⟩, k7⟩
    rw [e]
    rw [e, ← rcells_append, ← List.eraseIdx_eq_take_drop_succ] at hs7
    refine hs7.mono (fun k hk e => ?_)
    rcases e with e | e
    · exact e
    · rw [e]; exact bl_size (by assumption)
end
end Go.Proofs.Ytjjgihaikcnjgaa
/-
  The document's cache: its frames replaced, one frame turned; use.
-/
namespace Go.Proofs.Ytjjgihaikcnjgaa
open Go.RowKit Go.Maps
set_option linter.unusedSimpArgs false
set_option linter.unusedVariables false
set_option maxRecDepth 100000

section
variable {w : World} {col : Nat → Nat} {c b db : Nat} {s : CS} {fv : Value} {fs : List (Frm × Value)}
open Classical in
noncomputable def colR (col : Nat → Nat) (n m c : Nat) (one : Nat → Prop) (k : Nat) : Nat := if k < n then col k else if k < m then (if one k then 1 else c + 4) else 0
theorem RCacheIn.relist (h : RCacheIn w col c b s db fv fs) (hc : 1 < c) (hn : Norm w col) {w7 : World} (k : Chg (fun i => i < w.heap.size ∧ col i = c + 4) w w7) (one : Nat → Prop) {v' : Value} {fs' : List (Frm × Value)}
    (hl : SlAt w7 (fun i => (w.heap.size ≤ i ∧ ¬ one i) ∨ (i < w.heap.size ∧ col i = c + 4)) 121 5 v' fs'.length (rcells fs'))
    (hb : ∀ p ∈ fs', BytesAt w7 (fun i => col i = 1 ∨ (w.heap.size ≤ i ∧ one i)) p.2 p.1.bytes) (s' : CS) (hs : s' = { s with frames := fs'.map Prod.fst }) :
    ∃ col', RCacheIn (w7.setCell ⟨b, 2, none⟩ v') col' c b s' db v' fs' ∧ KStep c col col' w (w7.setCell ⟨b, 2, none⟩ v') := by
  subst hs
  have hcb := h.cb
  have hbl := h.lt
  have hsz := k.size
  have hlt : ∀ i, col i ≠ 0 → i < w.heap.size := fun i e => Nat.lt_of_not_le (fun e' => e (hn i e'))
  have hb7 : w7.heap[b]? = some (.cells (rcacheC db s fv) 74 (0, 0)) := (k.block b hbl (fun e => by have := e.2; omega)).trans h.block
  have k8 : Chg (fun i => i = b) w7 (w7.setCell ⟨b, 2, none⟩ v') := (Chg.refl (fun i => i = b) _).setCell ⟨b, 2, none⟩ v' (fun _ => rfl)
  have hold : ∀ i, i < w.heap.size → colR col w.heap.size w7.heap.size c one i = col i := fun i hi => by unfold colR; rw [if_pos hi]
  have hchg : Chg (inK col c) w (w7.setCell ⟨b, 2, none⟩ v') :=
    Chg.trans' (k.mono (own2 := inK col c) (fun i _ e => by unfold inK; omega)) k8 (fun i _ e => by have e : i = b := e; subst e; unfold inK; omega)
  refine ⟨colR col w.heap.size w7.heap.size c one, ⟨?_, by rw [hold b hbl]; exact hcb, ?_, rfl, ?_, fun p hp => ?_⟩, fun i hi => hold i hi, hchg, fun i hi => ?_⟩
  · rw [block_set hb7]; rfl
  · obtain ⟨t, hd, e⟩ := h.disk
    refine ⟨t, hd.keep (fun i hi e => ?_) (fun i hi => hold i hi) hchg.size, e⟩
    rw [k8.block i (by omega) (fun e' => by have e' : i = b := e'; subst e'; unfold inC at e; omega)]
    exact k.block i hi (fun e' => by have := e'.2; unfold inC at e; omega)
  · refine hl.keep (fun i hi e => k8.block i hi (fun e' => ?_)) (fun i hi e => ?_)
    · have e' : i = b := e'
      subst e'
      rcases e with e | e <;> omega
    · unfold colR
      rcases e with ⟨e1, e2⟩ | ⟨e1, e2⟩
      · rw [if_neg (by omega), if_pos hi, if_neg e2]
      · rw [if_pos e1]; exact e2
  · refine (hb p hp).keep (fun i hi e => k8.block i hi (fun e' => ?_)) (fun i hi e => ?_) (by simp)
    · have e' : i = b := e'
      subst e'
      rcases e with e | e <;> omega
    · rcases e with e | ⟨e1, e2⟩
      · rw [hold i (hlt i (by omega))]; exact e
      · unfold colR
        rw [if_neg (by omega), if_pos hi, if_pos e2]
  · have hi' : w7.heap.size ≤ i := by simpa using hi
    unfold colR
    rw [if_neg (by omega), if_neg (by omega)]
theorem RCacheIn.turn {g off cap : Nat} (h : RCacheIn w col c b s db (.slice (some ⟨g, off, none⟩) fs.length cap) fs) (hc : 1 < c) (hn : Norm w col) {j : Nat} (hj : j < fs.length) (k : Nat) (hk : k < 5) (u : Value) (q : Frm × Value) (hq : (rc fs[j].1 fs[j].2).set k u = rc q.1 q.2)
    (hqb : BytesAt w (fun i => col i = 1) q.2 q.1.bytes) (s' : CS) (hs : s' = { s with frames := s.frames.set j q.1 }) :
    (RCacheIn (w.setCell ⟨g, off + j * 5 + k, none⟩ u) col c b s' db (.slice (some ⟨g, off, none⟩) (fs.set j q).length cap) (fs.set j q) ∧ KStep c col col w (w.setCell ⟨g, off + j * 5 + k, none⟩ u)) ∧ w.frozen? ⟨g, off + j * 5 + k, none⟩ = false ∧ g < w.heap.size ∧ g ≠ b := by
  subst hs
  have hi : j * 5 + k < (rcells fs).length := by rw [rcells_len]; omega
  obtain ⟨h1, h2, h3, h4⟩ := h.list.set hi u
  rw [rcells_sets fs j hj k u q hq hk, ← Nat.add_assoc] at h1
  rw [← Nat.add_assoc] at h2
  have hcb := h.cb
  have hgb : g ≠ b := fun e => by subst e; omega
  have k8 : Chg (fun i => i = g) w (w.setCell ⟨g, off + j * 5 + k, none⟩ u) := (Chg.refl (fun i => i = g) _).setCell _ u (fun _ => rfl)
  refine ⟨⟨⟨by rw [List.length_set]; exact (k8.block b h.lt (fun e => hgb e.symm)).trans h.block, hcb, ?_, ?_, by rw [List.length_set]; exact h1, fun p hp => ?_⟩, KStep.of hn k8 (fun i e => by have e : i = g := e; subst e; unfold inK; omega)⟩, h2, h4, hgb⟩
  · obtain ⟨t, hd, e⟩ := h.disk
    exact ⟨t, hd.keep (fun i hi e => k8.block i hi (fun e' => by have e' : i = g := e'; subst e'; unfold inC at e; omega)) (Ext.refl _ _) k8.size, e⟩
  · rw [List.map_set, h.fr]
  · have key : ∀ p : Frm × Value, BytesAt w (fun i => col i = 1) p.2 p.1.bytes → BytesAt (w.setCell ⟨g, off + j * 5 + k, none⟩ u) (fun i => col i = 1) p.2 p.1.bytes := fun p hp =>
      hp.keep (fun i hi e => k8.block i hi (fun e' => by have e' : i = g := e'; subst e'; omega)) (fun _ _ e => e) k8.size
    rcases List.mem_or_eq_of_mem_set hp with hp | rfl
    · exact key p (h.bytes p hp)
    · exact key _ hqb
/-- the counts were turned -/
theorem RCacheIn.count (h : RCacheIn w col c b s db fv fs) (hc : 1 < c) (hn : Norm w col) (i : Nat) (v : Value) (s' : CS) (hd : s'.d = s.d) (hf : s'.frames = s.frames) (hs : (rcacheC db s fv).setIfInBounds i v = rcacheC db s' fv) :
    RCacheIn (w.setCell ⟨b, i, none⟩ v) col c b s' db fv fs ∧ KStep c col col w (w.setCell ⟨b, i, none⟩ v) := by
  have k2 : Chg (fun i => i = b) w (w.setCell ⟨b, i, none⟩ v) := (Chg.refl (fun i => i = b) _).setCell ⟨b, i, none⟩ _ (fun _ => rfl)
  have hcb := h.cb
  have key : ∀ i, i < w.heap.size → col i ≠ c + 3 → (w.setCell ⟨b, _, none⟩ v).heap[i]? = w.heap[i]? := fun i hi e => k2.block i hi (fun e' => by have e' : i = b := e'; subst e'; exact e hcb)
  refine ⟨⟨by rw [block_set h.block, hs], hcb, ?_, by rw [hf]; exact h.fr, h.list.keep (fun i hi e => key i hi (by omega)) (fun _ _ e => e), fun p hp => (h.bytes p hp).keep (fun i hi e => key i hi (by omega)) (fun _ _ e => e) k2.size⟩, KStep.of hn k2 (fun i e => by have e : i = b := e; subst e; unfold inK; omega)⟩
  rw [hd]
  obtain ⟨t, hd, e⟩ := h.disk
  exact ⟨t, hd.keep (fun i hi e => key i hi (by unfold inC at e; omega)) (Ext.refl _ _) k2.size, e⟩
theorem rest_erase {s : CS} (ok : s.Ok) {j : Nat} (hj : j < s.frames.length) : s.rest s.frames[j].sector = s.frames.eraseIdx j := by
  have hn := ok.nodup
  unfold CS.rest
  clear ok
  generalize s.frames = l at *
  induction l generalizing j with
  | nil => simp at hj
  | cons f l ih =>
    rw [List.map_cons, List.nodup_cons] at hn
    cases j with
    | zero =>
      simp only [List.getElem_cons_zero, List.eraseIdx_cons_zero, List.filter_cons]
      rw [if_neg (by simp [Frm.is])]
      refine List.filter_eq_self.2 (fun g hg => ?_)
      simp only [Frm.is, Bool.not_eq_true', beq_eq_false_iff_ne]
      intro e
      exact hn.1 (by rw [← e]; exact List.mem_map_of_mem hg)
    | succ j =>
      have hj' : j < l.length := by simpa using hj
      simp only [List.getElem_cons_succ, List.eraseIdx_cons_succ, List.filter_cons]
      rw [if_pos, ih hj' hn.2]
      simp only [Frm.is, Bool.not_eq_true', beq_eq_false_iff_ne]
      intro e
      exact hn.1 (by rw [e]; exact List.mem_map_of_mem (List.getElem_mem hj'))
theorem map_at {s : CS} (ok : s.Ok) {j : Nat} (hj : j < s.frames.length) (h : Frm → Frm) : s.frames.map (fun g => if Frm.is s.frames[j].sector g then h g else g) = s.frames.set j (h s.frames[j]) := by
  have hn := ok.nodup
  apply List.ext_getElem (by simp)
  intro i hi hi2
  simp only [List.getElem_map, List.getElem_set]
  by_cases e : j = i
  · subst e
    rw [if_pos (by simp [Frm.is]), if_pos rfl]
  · rw [if_neg e, if_neg]
    simp only [Frm.is, beq_iff_eq]
    intro e2
    have hi' : i < s.frames.length := by simpa using hi
    have h1 : (s.frames.map Frm.sector)[i]'(by simpa using hi') = (s.frames.map Frm.sector)[j]'(by simpa using hj) := by simpa using e2
    exact e ((List.getElem_inj hn).1 h1).symm
/-- what a call of the document's cache leaves -/
def RNow (w : World) (col : Nat → Nat) (c b db : Nat) (s' : CS) (w' : World) : Prop := ∃ col', RCacheAt w' col' c b db s' ∧ KStep c col col' w w'
end
end Go.Proofs.Ytjjgihaikcnjgaa
/-
  The document's cache: use.
-/
namespace Go.Proofs.Ytjjgihaikcnjgaa
open Go.RowKit Go.Maps
set_option linter.unusedSimpArgs false
set_option linter.unusedVariables false
set_option maxRecDepth 100000

section
variable {w : World} {col : Nat → Nat} {c b db : Nat} {s : CS} {fv : Value} {fs : List (Frm × Value)}
theorem map_erase {α β : Type} (f : α → β) : ∀ (l : List α) (i : Nat), (l.eraseIdx i).map f = (l.map f).eraseIdx i
  | [], _ => rfl
  | x :: l, 0 => rfl
  | x :: l, i + 1 => by simp [map_erase f l i]
theorem rused_eq (h : RCacheIn w col c b s db fv fs) (ok : s.Ok) {i : Nat} (hi : i < fs.length) : ∀ hs : i < s.frames.length, s.used s.frames[i] = { s with frames := (fs.eraseIdx i ++ [fs[i]]).map Prod.fst } := fun hs => by
  have e : s.frames[i] = fs[i].1 := by simp [← h.fr]
  unfold CS.used
  rw [rest_erase ok hs, e, List.map_append, ← h.fr, map_erase]
  rfl
set_option maxHeartbeats 4000000 in
theorem ruse_any (h : RCacheIn w col c b s db fv fs) (hc : 1 < c) (hnm : Norm w col) (ok : s.Ok) {i : Nat} (hi : i < fs.length) (s' : CS) (hs' : ∀ hs : i < s.frames.length, s' = s.used s.frames[i]) :
    Calls Try.prog 77 #[ptr b, .int .i64 i] w fun e w' => e = .returned (.tuple #[]) ∧ ∃ col' a cap, RCacheIn w' col' c b s' db (.slice a fs.length cap) (fs.eraseIdx i ++ [fs[i]]) ∧ KStep c col col' w w' := by
  obtain ⟨i0, hi0, hz0, hz1, hz2⟩ := info_parts info121
  have hlf := h.len
  have hu := rused_eq h ok hi (by omega)
  have hs2 : s' = { s with frames := (fs.eraseIdx i ++ [fs[i]]).map Prod.fst } := (hs' (by omega)).trans hu
  clear hu hs'
  obtain ⟨-, -, b2, -, -, -, -⟩ := cells_r h.block
  have fr2 := free_of_block h.block 2
  obtain ⟨a, cap, rfl⟩ := h.shape
  obtain ⟨g, off, rfl, hg, q0, q1, q2, q3, q4⟩ := rframe_cells rfl h.list.rd hi
  obtain ⟨av, cv, ev⟩ := h.shapes _ (List.getElem_mem hi)
  have hbl := h.lt
  have hlen : fs.length ≤ 4096 := by have := ok.len; have := ok.room1; omega
  have j0 : (0 : Int) ≤ (i : Int) := by omega
  have j1 : (i : Int) < (fs.length : Int) := by omega
  have j2 : (i : Int) ≤ 4096 := by omega
  have H := Lib.hid h
  have HOK := Lib.hid ok
  have HS2 := Lib.hid hs2
  have HNM := Lib.hid hnm
  have HMEM := Lib.hid (List.getElem_mem hi)
  have HFI : Hid (rcells (fs.eraseIdx i ++ [fs[i]]) = rcells (fs.eraseIdx i) ++ rc fs[i].1 fs[i].2 ∧ (fs.eraseIdx i ++ [fs[i]]).length = fs.length) := ⟨by rw [rcells_append]; simp [rcells], by rw [List.length_append, List.length_eraseIdx, if_pos hi]; simp; omega⟩
  have HFM : Hid (∀ p ∈ fs.eraseIdx i ++ [fs[i]], p ∈ fs) := fun p hp => by
    rcases List.mem_append.1 hp with hp | hp
    · exact List.mem_of_mem_eraseIdx hp
    · simp at hp; subst hp; exact List.getElem_mem hi
  have HONE : Hid (∀ u ∈ rc fs[i].1 fs[i].2, u.oneCell' = true) := fun u hu => rcells_ok h u (by
    have := rcells_append (fs.take i) (fs.drop i)
    rw [List.take_append_drop, List.drop_eq_getElem_cons hi] at this
    rw [this]
    exact List.mem_append_right _ (List.mem_append_left _ hu))
  clear h ok hs2 hnm hlf
  generalize fs[i] = fi at *
  obtain ⟨⟨fsec, fp, fd, fo, fb⟩, fw⟩ := fi
  simp only at q0 q1 q2 q3 q4 ev
  subst ev
  unfold ptr
  go_enter Try.func77, Try.ntmps77
  go_upto_region 1 with fail
  have k1 : Bl w (w.alloc (.cells #[.int .i64 fsec, .int .i64 fp, .bool fd, .int .u64 fo, .slice av fb.length cv] 121)) := (Bl.refl w).alloc _
  have bF := block_new w (.cells #[.int .i64 fsec, .int .i64 fp, .bool fd, .int .u64 fo, .slice av fb.length cv] 121)
  have H1 := Lib.hid (H.out.below k1)
  have b2' := (k1.cell (p := ⟨b, 2, none⟩) hbl).trans b2
  have fr2' := (k1.frozen (p := ⟨b, 2, none⟩) hbl).trans fr2
  have hbl1 : b < (w.alloc (.cells #[.int .i64 fsec, .int .i64 fp, .bool fd, .int .u64 fo, .slice av fb.length cv] 121)).heap.size := H1.out.lt
  generalize w.alloc (.cells #[.int .i64 fsec, .int .i64 fp, .bool fd, .int .u64 fo, .slice av fb.length cv] 121) = w1 at *
  have hFl : w.heap.size < w1.heap.size := lt_of_block bF
  generalize hFe : w.heap.size = F at *
  have HFE := Lib.hid hFe
  have KF : Hid (∀ W, Bl w1 W → W.cell? ⟨F, 0, none⟩ = some (.int .i64 fsec) ∧ W.cell? ⟨F, 1, none⟩ = some (.int .i64 fp) ∧ W.cell? ⟨F, 2, none⟩ = some (.bool fd) ∧ W.cell? ⟨F, 3, none⟩ = some (.int .u64 fo) ∧ W.cell? ⟨F, 4, none⟩ = some (.slice av fb.length cv)) := fun W k => by
    have hb := below_keeps k bF hFl
    exact ⟨(cell_of_block hb 0).trans rfl, (cell_of_block hb 1).trans rfl, (cell_of_block hb 2).trans rfl, (cell_of_block hb 3).trans rfl, (cell_of_block hb 4).trans rfl⟩
  have HK1 := Lib.hid k1
  have KFS : Hid (∀ W v, Bl w1 W → (W.setCell ⟨b, 2, none⟩ v).cell? ⟨F, 0, none⟩ = some (.int .i64 fsec) ∧ (W.setCell ⟨b, 2, none⟩ v).cell? ⟨F, 1, none⟩ = some (.int .i64 fp) ∧ (W.setCell ⟨b, 2, none⟩ v).cell? ⟨F, 2, none⟩ = some (.bool fd) ∧ (W.setCell ⟨b, 2, none⟩ v).cell? ⟨F, 3, none⟩ = some (.int .u64 fo) ∧ (W.setCell ⟨b, 2, none⟩ v).cell? ⟨F, 4, none⟩ = some (.slice av fb.length cv)) := fun W v k => by
    have hb := block_set_other (below_keeps k bF hFl) ⟨b, 2, none⟩ v (by show F ≠ b; omega)
    exact ⟨(cell_of_block hb 0).trans rfl, (cell_of_block hb 1).trans rfl, (cell_of_block hb 2).trans rfl, (cell_of_block hb 3).trans rfl, (cell_of_block hb 4).trans rfl⟩
  have HX : Hid (∀ W, Bl (w1.drew.alloc (.cells #[.int .i64 fsec, .int .i64 fp, .bool fd, .int .u64 fo, .slice av fb.length cv] 121)) W → RdAt W (fun _ => True) 5 (.slice (some ⟨w1.drew.heap.size, 0, none⟩) 1 1) 1 (rc ⟨fsec, fp, fd, fo, fb⟩ (.slice av fb.length cv))) := fun W k =>
    RdAt.below (RdAt.mono (rd_new w1.drew (rc ⟨fsec, fp, fd, fo, fb⟩ (.slice av fb.length cv)) 121 5 1 rfl (by unfold maxLen; omega)) (fun _ _ _ => trivial)) k
  clear hFe b2 fr2 q0 q1 q2 q3 q4 bF k1
  go_region_held3 (fun W => W.cell? ⟨F, 0, none⟩ = some (.int .i64 fsec) ∧ W.cell? ⟨F, 1, none⟩ = some (.int .i64 fp) ∧ W.cell? ⟨F, 2, none⟩ = some (.bool fd) ∧ W.cell? ⟨F, 3, none⟩ = some (.int .u64 fo) ∧ W.cell? ⟨F, 4, none⟩ = some (.slice av fb.length cv)) (first | (with_reducible refine KFS.out _ _ ?_; exact (by ((repeat (first | with_reducible exact Bl.refl _ | with_reducible exact k2 | with_reducible exact k7 | with_reducible refine Bl.alloc ?_ _ | with_reducible refine Bl.drew ?_)); done))) | (with_reducible refine KF.out _ ?_; exact (by ((repeat (first | with_reducible exact Bl.refl _ | with_reducible exact k2 | with_reducible exact k7 | with_reducible refine Bl.alloc ?_ _ | with_reducible refine Bl.drew ?_)); done)))) ((first | (go_at_call 93; refine (rwithout_any (H1.out.below ?_) HOK.out hi).mono ?_; exact (by ((repeat (first | with_reducible exact Bl.refl _ | with_reducible refine Bl.alloc ?_ _ | with_reducible refine Bl.drew ?_)); done)); rintro e w2 ⟨⟨v2, rfl, hs2⟩, k2⟩; obtain ⟨a2, cap2, rfl⟩ := hs2.shape; (have k2r := k2); (have hs2 : SlAt w2 (fun k => w1.heap.size ≤ k) 121 5 (.slice a2 (fs.length - 1) cap2) (fs.length - 1) (rcells (fs.eraseIdx i)) := hs2.mono (fun k hk e => Nat.le_trans (bl_size (by ((repeat (first | with_reducible exact Bl.refl _ | with_reducible refine Bl.alloc ?_ _ | with_reducible refine Bl.drew ?_)); done))) e)); (have k2 : Bl w1 w2 := Bl.trans (by ((repeat (first | with_reducible exact Bl.refl _ | with_reducible refine Bl.alloc ?_ _ | with_reducible refine Bl.drew ?_)); done)) k2r)) | (refine step_append_sl rfl (.tmp 15) (.tmp 17) 72 rfl 121 i0 (.agg #[.int .i64 0, .int .i64 0, .bool false, .int .u64 0, .slice none 0 0]) 5 56 Try.underlying72 hi0 hz0 hz1 hz2 rfl (fun k => w1.heap.size ≤ k) _ (fs.length - 1) (rcells (fs.eraseIdx i)) rfl ?_ (fun _ => True) _ 1 (rc ⟨fsec, fp, fd, fo, fb⟩ (.slice av fb.length cv)) rfl ?_ (HONE.out) ?_ ?_ ?_; exact hs2.below (by ((repeat (first | with_reducible exact Bl.refl _ | with_reducible refine Bl.alloc ?_ _ | with_reducible refine Bl.drew ?_)); done)); (first | exact HX.out _ k2r | exact (rd_new _ _ _ _ _ rfl (by unfold maxLen; omega)).mono (fun _ _ _ => trivial)); (unfold maxLen; omega); omega; intro v7 w7 hs7 hc7; obtain ⟨a7, cap7, rfl⟩ := hs7.shape; (have k7 : Bl w1 w7 := Below.trans (by ((repeat (first | with_reducible exact Bl.refl _ | with_reducible exact k2 | with_reducible exact k7 | with_reducible refine Bl.alloc ?_ _ | with_reducible refine Bl.drew ?_)); done)) (hc7.below (bl_size (by ((repeat (first | with_reducible exact Bl.refl _ | with_reducible exact k2 | with_reducible exact k7 | with_reducible refine Bl.alloc ?_ _ | with_reducible refine Bl.drew ?_)); done))) (fun i hi e => by omega))); (have p7 := (k7.cell (p := ⟨b, 2, none⟩) hbl1).trans b2'); (have f7 := (k7.frozen (p := ⟨b, 2, none⟩) hbl1).trans fr2'); (have z7 : b < w7.heap.size := Nat.lt_of_lt_of_le hbl1 k7.size))))
  all_goals
    go_wp2_with fail
    go_end0
    refine ⟨rfl, ?_⟩
    have hFe := HFE.out
    have kW : Bl w w7 := HK1.out.trans k7
    have hsz1 : w.heap.size ≤ w1.heap.size := HK1.out.size
    have e1 : fs.length - 1 + 1 = fs.length := by omega
    rw [e1] at hs7
    rw [e1]
    obtain ⟨r1, r2⟩ := HFI.out
    rw [← r1] at hs7
    obtain ⟨col', h8, k8⟩ := H.out.relist hc HNM.out (Chg.of_below kW) (fun _ => False) (v' := .slice a7 fs.length cap7) (fs' := fs.eraseIdx i ++ [(⟨fsec, fp, fd, fo, fb⟩, .slice av fb.length cv)]) (by
      rw [r2]
      refine hs7.mono (fun k hk e => Or.inl ⟨?_, not_false⟩)
      have := bl_size k7
      have := bl_size k2
      rcases e with e | e
      · omega
      · rw [e]; first | omega | (simp only [World.alloc, Array.size_push]; omega) | (simp; omega)) (fun p hp => ((H.out.bytes p (HFM.out p hp)).below kW).mono (fun k _ e => Or.inl e)) s' HS2.out
    exact ⟨col', a7, cap7, h8, k8⟩
end
end Go.Proofs.Ytjjgihaikcnjgaa
