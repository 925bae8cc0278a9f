/-
  CacheHolds: the walk.
-/
import Derived.Test.YtjjgihaikcnjgaaCOpen
import Derived.Test.YtjjgihaikcnjgaaSub
import Derived.Deep.CutRange
import Derived.Deep.CutBlock
namespace Go.Proofs.Ytjjgihaikcnjgaa
open Go.RowKit Go.Maps
set_option linter.unusedSimpArgs false
set_option linter.unusedVariables false
set_option maxRecDepth 100000

/-- what a round leaves -/
structure HoldT (t : CS) (frames size : Int) (k : Nat) : Prop where
  ok : t.Ok
  room : t.room = frames
  size : t.d.size = size
  pend : t.d.pending.length ≤ k * 4096
theorem HoldT.next {s t : CS} {frames size : Int} {k : Nat} (h : HoldT s frames size k) (q : Keeps s t) : HoldT t frames size (k + 1) :=
  ⟨q.ok, q.room.trans h.room, q.size.trans h.size, by have := q.pend; have := h.pend; omega⟩
/-- the cells of the j-th frame of a list -/
theorem frame_cells {w : World} {own : Nat → Prop} {a : Option Addr} {n cap : Nat} {l : List Frm} (hn : n = l.length) (h : RdAt w own 4 (.slice a n cap) n (fcells l)) {j : Nat} (hj : j < l.length) :
    ∃ g off, a = some ⟨g, off, none⟩ ∧ g < w.heap.size ∧ w.cell? ⟨g, off + j * 4, none⟩ = some (.int .i64 l[j].sector) ∧ w.cell? ⟨g, off + j * 4 + 1, none⟩ = some (.int .i64 l[j].pins) ∧ w.cell? ⟨g, off + j * 4 + 2, none⟩ = some (.bool l[j].dirty) ∧ w.cell? ⟨g, off + j * 4 + 3, none⟩ = some (.int .u64 l[j].order) := by
  subst hn
  obtain ⟨g, off, rfl, _, hg, hc⟩ := h.get (by omega)
  have key : ∀ (l : List Frm) (j : Nat) (hj : j < l.length), (fcells l)[j * 4]? = some (.int .i64 l[j].sector) ∧ (fcells l)[j * 4 + 1]? = some (.int .i64 l[j].pins) ∧ (fcells l)[j * 4 + 2]? = some (.bool l[j].dirty) ∧ (fcells l)[j * 4 + 3]? = some (.int .u64 l[j].order) := fun l => by
    induction l with
    | nil => intro j hj; simp at hj
    | cons f l ih =>
      intro j hj
      have e : fcells (f :: l) = [.int .i64 f.sector, .int .i64 f.pins, .bool f.dirty, .int .u64 f.order] ++ fcells l := rfl
      rw [e]
      cases j with
      | zero => exact ⟨rfl, rfl, rfl, rfl⟩
      | succ j =>
        obtain ⟨h0, h1, h2, h3⟩ := ih j (by simpa using hj)
        refine ⟨?_, ?_, ?_, ?_⟩
        · rw [show (j + 1) * 4 = j * 4 + 4 by omega]; simpa using h0
        · rw [show (j + 1) * 4 + 1 = j * 4 + 1 + 4 by omega]; simpa using h1
        · rw [show (j + 1) * 4 + 2 = j * 4 + 2 + 4 by omega]; simpa using h2
        · rw [show (j + 1) * 4 + 3 = j * 4 + 3 + 4 by omega]; simpa using h3
  obtain ⟨h0, h1, h2, h3⟩ := key l j hj
  exact ⟨g, off, rfl, hg, hc _ _ h0, hc _ _ h1, hc _ _ h2, hc _ _ h3⟩
theorem fcells_take (l : List Frm) (j : Nat) : (fcells l).take (j * 4) = fcells (l.take j) := by
  induction l generalizing j with
  | nil => simp [fcells]
  | cons f l ih =>
    cases j with
    | zero => simp [fcells]
    | succ j =>
      have e : fcells (f :: l) = [.int .i64 f.sector, .int .i64 f.pins, .bool f.dirty, .int .u64 f.order] ++ fcells l := rfl
      have e2 : fcells ((f :: l).take (j + 1)) = [.int .i64 f.sector, .int .i64 f.pins, .bool f.dirty, .int .u64 f.order] ++ fcells (l.take j) := rfl
      rw [e, e2, ← ih, show (j + 1) * 4 = j * 4 + 4 by omega]
      simp
theorem sectors_apart {t : CS} (ok : t.Ok) {i j : Nat} (hi : i < j) (hj : j < t.frames.length) : ((t.frames[i]'(by omega)).sector == (t.frames[j]'hj).sector) = false := by
  have hn := ok.nodup
  have := (List.pairwise_iff_getElem.1 hn) i j (by simp; omega) (by simpa using hj) hi
  simpa using this
/-- is there a frame of a sector among the first j? -/
def among (l : List Frm) (n : Int) (j : Nat) : Bool := (l.take j).any (fun g => g.sector == n)
theorem among_zero (l : List Frm) (n : Int) : among l n 0 = false := by simp [among]
theorem among_succ (l : List Frm) (n : Int) (j : Nat) (h : j < l.length) : among l n (j + 1) = (among l n j || (l[j].sector == n)) := by
  unfold among; rw [List.take_succ_eq_append_getElem h, List.any_append]; simp
theorem stay_among {s t : CS} (h : PinsStay s t) {f : Frm} (hf : f ∈ s.frames) : ((f.pins == 0) || among t.frames f.sector t.frames.length) = true := by
  by_cases e : f.pins = 0
  · simp [e]
  · obtain ⟨g, hg, e2⟩ := h f hf e
    have : among t.frames f.sector t.frames.length = true := by
      unfold among
      rw [List.take_length, List.any_eq_true]
      exact ⟨g, hg, by simpa using e2⟩
    rw [this]; simp
set_option maxHeartbeats 8000000 in
theorem holds_any (w : World) (v : Value) (x : Scr) (hx : ScrAt w v x) : Calls Try.prog 3 #[v] w fun e w' => e = .returned (.bool true) ∧ Below w.heap.size w w' := by
  obtain ⟨a, cap, rfl, hlen, hfine, hin⟩ := hx
  obtain ⟨size, sectors, frames, l⟩ := x
  simp only at *
  have B1 : Below w.heap.size w (w.alloc (.cells #[.int .i64 size, .int .i64 sectors, .int .i64 frames, .slice a l.length cap] 24)) := (Below.refl _ _).alloc (Nat.le_refl _) _
  have b1 : (w.alloc (.cells #[.int .i64 size, .int .i64 sectors, .int .i64 frames, .slice a l.length cap] 24)).heap[w.heap.size]? = some (.cells #[.int .i64 size, .int .i64 sectors, .int .i64 frames, .slice a l.length cap] 24 (0, 0)) := block_new _ _
  have HLEN := Lib.hid hlen
  have HFINE := Lib.hid hfine
  obtain ⟨i9, hi9, hz90, hz91, hz92⟩ := info_parts info43
  unfold scr
  go_enter Try.func3, Try.ntmps3
  go_wp2_with fail
  generalize hW1 : w.alloc (.cells #[.int .i64 size, .int .i64 sectors, .int .i64 frames, .slice a l.length cap] 24) = W1 at *
  generalize hD : w.heap.size = D at *
  have hDl : D < W1.heap.size := lt_of_block b1
  have HIN : Hid (0 < l.length → ∃ g off, a = some ⟨g, off, none⟩ ∧ ∀ W, Below W1.heap.size W1 W → ∀ i (h : i < l.length), OpCellsC W g (off + i * 5) l[i]) := fun h0 => by
    obtain ⟨g, off, e, hg, q⟩ := hin h0
    refine ⟨g, off, e, fun W k i h => ?_⟩
    have hg1 : g < W1.heap.size := by omega
    have cc : ∀ p, W.cell? ⟨g, p, none⟩ = w.cell? ⟨g, p, none⟩ := fun p => (k.cell (p := ⟨g, p, none⟩) hg1).trans (B1.cell (p := ⟨g, p, none⟩) hg)
    obtain ⟨q0, q1, q2, q3, q4⟩ := q i h
    exact ⟨(cc _).trans q0, (cc _).trans q1, (cc _).trans q2, (cc _).trans q3, (cc _).trans q4⟩
  have HBOX : Hid (∀ W, Below W1.heap.size W1 W → W.heap[D]? = some (.cells #[.int .i64 size, .int .i64 sectors, .int .i64 frames, .slice a l.length cap] 24 (0, 0))) := fun W k => below_keeps k b1 hDl
  have HB1 := Lib.hid B1
  have HDe := Lib.hid hD
  clear hin hW1 hD b1 hfine hlen B1
  refine (alone_any W1 size sectors frames a l.length cap).mono ?_
  rintro e w2 (⟨hf, hfr, db, cb, col, rfl, hC, hE⟩ | ⟨hno, rfl, k2⟩)
  · obtain ⟨sz, rfl⟩ := Int.eq_ofNat_of_zero_le (show 0 ≤ size by have := (fits_bounds hf).1; omega)
    have hT0 : HoldT (CS.new (DS.new sz sectors) frames) frames sz 0 := ⟨newS_Ok hf hfr, rfl, rfl, by simp [CS.new, DS.new]⟩
    have hb2 := HBOX.out w2 hE.bel
    have bx3 : w2.cell? ⟨D, 3, none⟩ = some (.slice a l.length cap) := by rw [cell_of_block hb2]; rfl
    have HFR := Lib.hid hfr
    have HSZ : Hid (512 ≤ (sz : Int) ∧ (sz : Int) ≤ 4096) := ⟨(fits_bounds hf).1, (fits_bounds hf).2.1⟩
    clear hb2 hf hfr
    unfold ptr
    go_wp2_with fail
    go_loopw [35] (fun i wr => ∃ (k : Nat) (col' : Nat → Nat) (t : CS), k ≤ l.length ∧ i = .int .i64 k ∧ CacheAt wr col' 2 cb db t ∧ Env W1 col' wr ∧ HoldT t frames sz k) (fun i _ => l.length - (intOf i).toNat)
    case atStart => exact ⟨0, col, _, Nat.zero_le _, rfl, hC, hE, hT0⟩
    case round =>
      obtain ⟨k, col', t, hk, rfl, hCk, hEk, hTk⟩ := hrel
      clear hC hE hT0 bx3
      have hln := HLEN.out
      have i0 : (0 : Int) ≤ (k : Int) := by omega
      have jb : (k : Int) ≤ 174762 := by omega
      by_cases hlt : k < l.length
      · have i1 : (k : Int) < (l.length : Int) := by omega
        obtain ⟨g, off, rfl, hcell⟩ := HIN.out (by omega)
        obtain ⟨e0, e1, e2, e3, e4⟩ := hcell wr hEk.bel k hlt
        have hfi := HFINE.out _ (List.getElem_mem hlt)
        clear hcell
        generalize l[k] = o at *
        obtain ⟨okind, osec, ofill, oshort, oord⟩ := o
        simp only at e0 e1 e2 e3 e4
        have HCk := Lib.hid hCk
        have HEk := Lib.hid hEk
        have HTk := Lib.hid hTk
        have HFI := Lib.hid hfi
        clear hCk hEk hTk hfi hln
        go_wp2_with fail
        have bo := block_new wr (.cells #[.int .i64 okind, .int .i64 osec, .int .u8 ofill, .int .i64 oshort, .int .u64 oord] 31)
        have K3 : Below wr.heap.size wr (wr.alloc (.cells #[.int .i64 okind, .int .i64 osec, .int .u8 ofill, .int .i64 oshort, .int .u64 oord] 31)) := (Below.refl _ _).alloc (Nat.le_refl _) _
        generalize wr.alloc (.cells #[.int .i64 okind, .int .i64 osec, .int .u8 ofill, .int .i64 oshort, .int .u64 oord] 31) = w3 at *
        generalize hO : wr.heap.size = O at *
        have hol : O < w3.heap.size := lt_of_block bo
        have hO0 : col' O = 0 := HEk.out.norm O (by omega)
        have HC3 := Lib.hid (HCk.out.below (by rw [hO]; exact K3))
        have HE3 := Lib.hid (HEk.out.below (by rw [hO]; exact K3))
        have BO := Lib.hid bo
        clear HCk HEk e0 e1 e2 e3 e4 K3 hO bo
        refine (frames_law HC3.out HE3.out.norm HTk.out.ok).mono ?_
        rintro e w4 ⟨⟨a4, cap4, rfl, hs4⟩, k4⟩
        have HC4 := Lib.hid (HC3.out.below k4)
        have HE4 := Lib.hid (HE3.out.below k4)
        have HS4 := Lib.hid hs4.rd
        have bo4 := below_keeps k4 BO.out hol
        have c0 : w4.cell? ⟨O, 0, none⟩ = some (.int .i64 okind) := by rw [cell_of_block bo4]; rfl
        have c1 : w4.cell? ⟨O, 1, none⟩ = some (.int .i64 osec) := by rw [cell_of_block bo4]; rfl
        have c2 : w4.cell? ⟨O, 2, none⟩ = some (.int .u8 ofill) := by rw [cell_of_block bo4]; rfl
        have c4 : w4.cell? ⟨O, 4, none⟩ = some (.int .u64 oord) := by rw [cell_of_block bo4]; rfl
        have x0 : w4.cell? ⟨D, 0, none⟩ = some (.int .i64 sz) := by rw [cell_of_block (HBOX.out w4 HE4.out.bel)]; rfl
        clear hs4 k4 bo4 HC3 HE3 BO
        go_upto_block 2 with fail
        go_cut [42] from 36 to 134 (fun _ wx => ∃ col2 t2, CacheAt wx col2 2 cb db t2 ∧ KStep 2 col' col2 w4 wx ∧ Keeps t t2 ∧ PinsStay t t2)
        case first =>
          have hpd : t.d.pending.length ≤ 1073690000 := by have := HTk.out.pend; omega
          have HS : Hid (∀ W colW, KStep 2 col' colW w4 W → W.cell? ⟨O, 1, none⟩ = some (.int .i64 osec) ∧ W.cell? ⟨O, 2, none⟩ = some (.int .u8 ofill) ∧ W.cell? ⟨O, 4, none⟩ = some (.int .u64 oord) ∧ W.cell? ⟨D, 0, none⟩ = some (.int .i64 sz)) := fun W colW q => by
            have hb := HBOX.out W (HE4.out.kstep q (by omega)).bel
            have hk : ∀ i, W.cell? ⟨O, i, none⟩ = w4.cell? ⟨O, i, none⟩ := fun i => q.chg.cell (p := ⟨O, i, none⟩) (show O < w4.heap.size from cell_lt c0) (fun e => by have e : inK col' 2 O := e; unfold inK at e; omega)
            exact ⟨(hk _).trans c1, (hk _).trans c2, (hk _).trans c4, by rw [cell_of_block hb]; rfl⟩
          have HPD := Lib.hid hpd
          clear hpd
          have hside : okind = 0 ∨ okind = 1 ∨ okind = 2 ∨ okind = 3 ∨ okind = 6 ∨ ((okind == 0) = false ∧ (okind == 1) = false ∧ (okind == 2) = false ∧ (okind == 3) = false ∧ (okind == 6) = false) := by
            by_cases h0 : okind = 0; · exact Or.inl h0
            by_cases h1 : okind = 1; · exact Or.inr (Or.inl h1)
            by_cases h2 : okind = 2; · exact Or.inr (Or.inr (Or.inl h2))
            by_cases h3 : okind = 3; · exact Or.inr (Or.inr (Or.inr (Or.inl h3)))
            by_cases h6 : okind = 6; · exact Or.inr (Or.inr (Or.inr (Or.inr (Or.inl h6))))
            exact Or.inr (Or.inr (Or.inr (Or.inr (Or.inr ⟨by simp [h0], by simp [h1], by simp [h2], by simp [h3], by simp [h6]⟩))))
          rcases hside with rfl | rfl | rfl | rfl | rfl | ⟨n0, n1, n2, n3, n6⟩
          · go_wp2_with fail
            refine (get_law HC4.out (by omega) HE4.out.norm HTk.out.ok HPD.out osec HFI.out.sector).mono ?_
            rintro e w5 ⟨col5, h5, k5, ⟨-, a5, cap5, rfl, -⟩ | ⟨-, rfl⟩⟩
            all_goals
              go_wp2_with fail
              go_meet
              case rel => exact ⟨col5, _, h5, k5, fetch_keeps HTk.out.ok _, fetch_stay HTk.out.ok _⟩
          · go_wp2_with fail
            refine (pin_law HC4.out (by omega) HE4.out.norm HTk.out.ok HPD.out osec HFI.out.sector).mono ?_
            rintro e w5 ⟨col5, h5, k5, ⟨-, a5, cap5, rfl, -⟩ | ⟨-, rfl⟩⟩
            all_goals
              go_wp2_with fail
              go_meet
              case rel => exact ⟨col5, _, h5, k5, pin_keeps HTk.out.ok _, pin_stay HTk.out.ok _⟩
          · go_wp2_with fail
            refine (unpin_law HC4.out (by omega) HE4.out.norm HTk.out.ok osec HFI.out.sector).mono ?_
            rintro e w5 ⟨rfl, col5, h5, k5, -⟩
            go_wp2_with fail
            go_meet
            case rel => exact ⟨col5, _, h5, k5, unpin_keeps HTk.out.ok _, unpin_stay _⟩
          · go_wp2_with fail
            go_region_held3 (fun W => W.cell? ⟨O, 1, none⟩ = some (.int .i64 osec) ∧ W.cell? ⟨O, 2, none⟩ = some (.int .u8 ofill) ∧ W.cell? ⟨O, 4, none⟩ = some (.int .u64 oord) ∧ W.cell? ⟨D, 0, none⟩ = some (.int .i64 sz)) (first | exact HS.out _ _ (KStep.refl 2 HE4.out.norm).drew | exact HS.out _ _ ((KStep.below HE4.out.norm (below_undrew k5)).trans k6) | exact HS.out _ _ (KStep.below HE4.out.norm (below_undrew k5))) ((first | (go_at_call 15; refine (fill_any _ col' (by first | exact HE4.out.norm.grow (Nat.le_refl _) | exact HE4.out.norm) sz ofill (by have := HSZ.out; omega) HFI.out.fill).mono ?_; rintro e w5 ⟨⟨a5, cap5, rfl, hs5⟩, k5⟩) | (go_at_call 14; refine (put_law (HC4.out.below (below_undrew k5)) (by omega) (HE4.out.below (below_undrew k5)).norm HTk.out.ok HPD.out osec HFI.out.sector _ (rep sz ofill) oord (by rw [rep_len]; exact hs5.rd)).mono ?_; rintro e w6 ⟨rfl, col6, h6, k6, -⟩)))
            all_goals go_wp2_with fail
            all_goals go_meet
            all_goals exact ⟨col6, _, h6, (KStep.below HE4.out.norm (below_undrew k5)).trans k6, put_keeps HTk.out.ok _ _ _ HFI.out.order, put_stay HTk.out.ok _ _ _⟩
          · go_wp2_with fail
            refine (drop_law HC4.out (by omega) HE4.out.norm HTk.out.ok).mono ?_
            rintro e w5 ⟨rfl, col5, h5, k5, -⟩
            go_wp2_with fail
            go_meet
            case rel => exact ⟨col5, _, h5, k5, drop_keeps HTk.out.ok, drop_stay _⟩
          · go_wp2_with fail
            go_meet
            case rel => exact ⟨col', t, HC4.out, KStep.refl 2 HE4.out.norm, Keeps.refl HTk.out.ok, PinsStay.refl _⟩
        case rest =>
          obtain ⟨col2, t2, h2, k2, q2, st2⟩ := hcut
          have HC5 := Lib.hid h2
          have HE5 := Lib.hid (HE4.out.kstep k2 (by omega))
          have HQ2 := Lib.hid q2
          have HST2 := Lib.hid st2
          have HS5 := Lib.hid (k2.rd (by omega) HS4.out)
          obtain ⟨w5, rfl⟩ : ∃ x, x = wc := ⟨wc, rfl⟩
          clear h2 k2 q2 st2 c0 c1 c2 c4 x0 HS4
          go_wp2_with fail
          refine (frames_law HC5.out HE5.out.norm HQ2.out.ok).mono ?_
          rintro e w6 ⟨⟨a6, cap6, rfl, hs6⟩, k6⟩
          have HC6 := Lib.hid (HC5.out.below k6)
          have HE6 := Lib.hid (HE5.out.below k6)
          have HSB := Lib.hid (HS5.out.below k6)
          have HSA := Lib.hid hs6.rd
          have x2 : w6.cell? ⟨D, 2, none⟩ = some (.int .i64 frames) := by rw [cell_of_block (HBOX.out w6 HE6.out.bel)]; rfl
          have hle : ¬ frames < (t2.frames.length : Int) := by have := HQ2.out.ok.len; have := HQ2.out.room; have := HTk.out.room; omega
          have hn4 : t2.frames.length ≤ 4096 := by have := HQ2.out.ok.len; have := HQ2.out.ok.room1; omega
          have hm4 : t.frames.length ≤ 4096 := by have := HTk.out.ok.len; have := HTk.out.ok.room1; omega
          have HN4 := Lib.hid hn4
          have HM4 := Lib.hid hm4
          have HT2 : Hid (HoldT t2 frames sz (k + 1)) := HTk.out.next HQ2.out
          clear hs6 k6 HS5 HC5 HE5 hm4
          go_wp2_with fail
          go_loopw [87] (fun i wr => ∃ j : Nat, j ≤ t2.frames.length ∧ i = .int .i64 j ∧ Below w6.heap.size w6 wr) (fun i _ => t2.frames.length - (intOf i).toNat)
          case atStart => exact ⟨0, Nat.zero_le _, rfl, Below.refl _ _⟩
          case round =>
            obtain ⟨j, hj, rfl, hb⟩ := hrel
            clear x2 hle
            have j0 : (0 : Int) ≤ (j : Int) := by omega
            have j9 : (j : Int) ≤ 4096 := by omega
            by_cases hjn : j < t2.frames.length
            · have j1 : (j : Int) < (t2.frames.length : Int) := by omega
              have j2 : (j : Int) ≤ (t2.frames.length : Int) := by omega
              obtain ⟨pa, pc, hrun, hpre⟩ := slice_to Try.underlying32 hi9 hz91 HSA.out hj
              have hrun2 := hrun
              rw [fcells_take] at hpre
              obtain ⟨g7, off7, rfl, hg7, q0, q1, q2, q3⟩ := frame_cells rfl (HSA.out.below hb) hjn
              have HPRE := Lib.hid hpre
              have HAP : Hid (∀ i (hi : i < j), ((t2.frames[i]'(by omega)).sector == (t2.frames[j]'hjn).sector) = false) := fun i hi => sectors_apart HQ2.out.ok hi hjn
              have HB := Lib.hid hb
              clear hpre hb
              generalize t2.frames[j] = fj at *
              go_wp2_with fail
              have bF := block_new wr (.cells #[.int .i64 fj.sector, .int .i64 fj.pins, .bool fj.dirty, .int .u64 fj.order] 43)
              have KF : Below w6.heap.size w6 (wr.alloc (.cells #[.int .i64 fj.sector, .int .i64 fj.pins, .bool fj.dirty, .int .u64 fj.order] 43)) := HB.out.alloc HB.out.size _
              generalize wr.alloc (.cells #[.int .i64 fj.sector, .int .i64 fj.pins, .bool fj.dirty, .int .u64 fj.order] 43) = wF at *
              generalize wr.heap.size = F at *
              have HKF := Lib.hid KF
              have BF := Lib.hid bF
              clear bF KF q0 q1 q2 q3 hrun hrun2
              go_loopw [96] (fun i ws => ∃ jj : Nat, jj ≤ j ∧ i = .int .i64 jj ∧ Below wF.heap.size wF ws) (fun i _ => j - (intOf i).toNat)
              case atStart => exact ⟨0, Nat.zero_le _, rfl, Below.refl _ _⟩
              case round =>
                obtain ⟨jj, hjj, rfl, hbs⟩ := hrel
                have jj0 : (0 : Int) ≤ (jj : Int) := by omega
                have jj9 : (jj : Int) ≤ 4096 := by omega
                have hb6 := HKF.out.trans (hbs.mono HKF.out.size)
                by_cases hjl : jj < j
                · have jj1 : (jj : Int) < (j : Int) := by omega
                  have hpl : jj < (t2.frames.take j).length := by rw [List.length_take]; omega
                  have hpj : j = (t2.frames.take j).length := by rw [List.length_take]; omega
                  obtain ⟨g8, off8, rfl, hg8, q0, q1, q2, q3⟩ := frame_cells hpj (HPRE.out.below hb6) hpl
                  have hne := HAP.out jj hjl
                  have egl : (t2.frames.take j)[jj] = t2.frames[jj] := by simp
                  rw [egl] at q0 q1 q2 q3
                  have bf := below_keeps hbs BF.out (lt_of_block BF.out)
                  have f0' : wr.cell? ⟨F, 0, none⟩ = some (.int .i64 fj.sector) := by rw [cell_of_block bf]; rfl
                  have hFl : F < wr.heap.size := lt_of_block bf
                  have HBS := Lib.hid hbs
                  generalize t2.frames[jj] = gj at *
                  clear bf hbs hb6 hpl egl hpj
                  go_wp2_with fail
                  go_roundw
                  case rel => exact ⟨jj + 1, by omega, by go_num, HBS.out.alloc HBS.out.size _⟩
                  case measure => simp [intOf]; omega
                · obtain rfl : jj = j := by omega
                  have HB6 := Lib.hid hb6
                  clear hb6 hbs
                  go_wp2_with fail
                  go_roundw
                  case rel => exact ⟨jj + 1, by omega, by go_num, HB6.out⟩
                  case measure => simp [intOf]; omega
            · obtain rfl : j = t2.frames.length := by omega
              have HB := Lib.hid hb
              clear hb
              go_wp2_with fail
              go_loopw [109] (fun i wr => ∃ j : Nat, j ≤ t.frames.length ∧ i = .int .i64 j ∧ Below w6.heap.size w6 wr) (fun i _ => t.frames.length - (intOf i).toNat)
              case atStart => exact ⟨0, Nat.zero_le _, rfl, HB.out⟩
              case round =>
                obtain ⟨j, hj', rfl, hb⟩ := hrel
                have hm4 := HM4.out
                have j0' : (0 : Int) ≤ (j : Int) := by omega
                have j9' : (j : Int) ≤ 4096 := by omega
                by_cases hjn' : j < t.frames.length
                · have j1 : (j : Int) < (t.frames.length : Int) := by omega
                  obtain ⟨g7, off7, rfl, hg7, q0, q1, q2, q3⟩ := frame_cells rfl (HSB.out.below hb) hjn'
                  have HST := Lib.hid (stay_among HST2.out (List.getElem_mem hjn'))
                  have HB7 := Lib.hid hb
                  clear hb
                  generalize t.frames[j] = fj at *
                  generalize hb0 : (fj.pins == 0) = b0 at *
                  go_wp2_with fail
                  have bF := block_new wr (.cells #[.int .i64 fj.sector, .int .i64 fj.pins, .bool fj.dirty, .int .u64 fj.order] 43)
                  have KF : Below w6.heap.size w6 (wr.alloc (.cells #[.int .i64 fj.sector, .int .i64 fj.pins, .bool fj.dirty, .int .u64 fj.order] 43)) := HB7.out.alloc HB7.out.size _
                  generalize wr.alloc (.cells #[.int .i64 fj.sector, .int .i64 fj.pins, .bool fj.dirty, .int .u64 fj.order] 43) = wF at *
                  generalize wr.heap.size = F at *
                  have HKF := Lib.hid KF
                  have BF := Lib.hid bF
                  clear bF KF q0 q1 q2 q3 hb0
                  go_loopw [16, 118] (fun bv i ws => ∃ jj : Nat, jj ≤ t2.frames.length ∧ i = .int .i64 jj ∧ bv = .bool (b0 || among t2.frames fj.sector jj) ∧ Below wF.heap.size wF ws) (fun _ i _ => t2.frames.length - (intOf i).toNat)
                  case atStart => exact ⟨0, Nat.zero_le _, rfl, by rw [among_zero, Bool.or_false], Below.refl _ _⟩
                  case round =>
                    obtain ⟨jj, hjj, rfl, rfl, hbs⟩ := hrel
                    have jj0 : (0 : Int) ≤ (jj : Int) := by omega
                    have jj9 : (jj : Int) ≤ 4096 := by omega
                    have hb6 := HKF.out.trans (hbs.mono HKF.out.size)
                    by_cases hjl : jj < t2.frames.length
                    · have jj1 : (jj : Int) < (t2.frames.length : Int) := by omega
                      obtain ⟨g8, off8, rfl, hg8, q0, q1, q2, q3⟩ := frame_cells rfl (HSA.out.below hb6) hjl
                      have bf := below_keeps hbs BF.out (lt_of_block BF.out)
                      have f0' : wr.cell? ⟨F, 0, none⟩ = some (.int .i64 fj.sector) := by rw [cell_of_block bf]; rfl
                      have hFl : F < wr.heap.size := lt_of_block bf
                      have HBS := Lib.hid hbs
                      have HAS := Lib.hid (among_succ t2.frames fj.sector jj hjl)
                      generalize t2.frames[jj] = gj at *
                      clear bf hbs hb6
                      generalize among t2.frames fj.sector jj = m0 at *
                      cases hbv : (b0 || m0) with
                      | true =>
                        have HV := Lib.hid hbv
                        clear hbv
                        go_wp2_with fail
                        go_roundw
                        case rel => exact ⟨jj + 1, by omega, by go_num, by rw [HAS.out, ← Bool.or_assoc, HV.out, Bool.true_or], HBS.out.alloc HBS.out.size _⟩
                        case measure => simp [intOf]; omega
                      | false =>
                        have HV := Lib.hid hbv
                        clear hbv
                        cases hgs : (gj.sector == fj.sector) with
                        | true =>
                          have HG := Lib.hid hgs
                          go_wp2_with fail
                          go_roundw
                          case rel => exact ⟨jj + 1, by omega, by go_num, by rw [HAS.out, ← Bool.or_assoc, HV.out, HG.out]; rfl, HBS.out.alloc HBS.out.size _⟩
                          case measure => simp [intOf]; omega
                        | false =>
                          have HG := Lib.hid hgs
                          go_wp2_with fail
                          go_roundw
                          case rel => exact ⟨jj + 1, by omega, by go_num, by rw [HAS.out, ← Bool.or_assoc, HV.out, HG.out]; rfl, HBS.out.alloc HBS.out.size _⟩
                          case measure => simp [intOf]; omega
                    · obtain rfl : jj = t2.frames.length := by omega
                      have HB6 := Lib.hid hb6
                      rw [HST.out]
                      clear hb6 hbs
                      go_wp2_with fail
                      go_roundw
                      case rel => exact ⟨j + 1, by omega, by go_num, HB6.out⟩
                      case measure => simp [intOf]; omega
                · obtain rfl : j = t.frames.length := by omega
                  have HB8 := Lib.hid hb
                  clear hb
                  go_wp2_with fail
                  go_roundw
                  case rel => exact ⟨k + 1, col2, t2, by omega, by go_num, HC6.out.below HB8.out, HE6.out.below HB8.out, HT2.out⟩
                  case measure => simp [intOf]; omega
      · obtain rfl : k = l.length := by omega
        go_wp2_with fail
        go_ret
        rw [HDe.out]
        exact ⟨rfl, HB1.out.trans (hEk.bel.mono (by omega))⟩
  · go_wp2_with fail
    go_ret
    rw [HDe.out]
    exact ⟨rfl, HB1.out.trans (k2.mono (by omega))⟩
end Go.Proofs.Ytjjgihaikcnjgaa
