/-
  CacheSame: the walk.
-/
import Derived.Test.YtjjgihaikcnjgaaCOpen
import Derived.Test.YtjjgihaikcnjgaaCSameP
import Derived.Deep.CutRange
import Derived.Deep.CutBlock
namespace Go.Proofs.Ytjjgihaikcnjgaa
open Go.RowKit Go.Maps
set_option linter.unusedSimpArgs false
set_option linter.unusedVariables false
set_option maxRecDepth 100000

/-- what a round leaves -/
structure HoldS (t : CS) (sn sz : Nat) (now : List Int) (k : Nat) : Prop where
  ok : t.Ok
  size : t.d.size = sz
  pend : t.d.pending.length ≤ k * 4096
  same : SameT t sn sz now
theorem HoldS.next {s t : CS} {sn sz : Nat} {now now' : List Int} {k : Nat} (h : HoldS s sn sz now k) (q : Keeps s t) (a : SameT t sn sz now') : HoldS t sn sz now' (k + 1) :=
  ⟨q.ok, q.size.trans h.size, by have := q.pend; have := h.pend; omega, a⟩
theorem CacheAt.outer {w w' : World} {col : Nat → Nat} {cb db NB : Nat} {t : CS} (h : CacheAt w col 2 cb db t) (hN : col NB = 0) (k : Chg (fun i => i = NB) w w') : CacheAt w' col 2 cb db t := by
  obtain ⟨rb, mb, ns, h⟩ := h
  exact ⟨rb, mb, ns, h.keep (fun i hi e => k.block i hi (fun e' => by have e' : i = NB := e'; subst e'; unfold inK at e; omega)) (Ext.refl _ _) k.size⟩
set_option maxHeartbeats 16000000 in
theorem same_any' (w : World) (v : Value) (x : Scr) (hx : ScrAt w v x) : Calls Try.prog 5 #[v] w fun e w' => e = .returned (.bool true) ∧ Below w.heap.size w w' := by
  obtain ⟨a, cap, rfl, hlen, hfine, hin⟩ := hx
  obtain ⟨size, sectors, frames, l⟩ := x
  simp only at *
  have B1 : Below w.heap.size w (w.alloc (.cells #[.int .i64 size, .int .i64 sectors, .int .i64 frames, .slice a l.length cap] 24)) := (Below.refl _ _).alloc (Nat.le_refl _) _
  have b1 : (w.alloc (.cells #[.int .i64 size, .int .i64 sectors, .int .i64 frames, .slice a l.length cap] 24)).heap[w.heap.size]? = some (.cells #[.int .i64 size, .int .i64 sectors, .int .i64 frames, .slice a l.length cap] 24 (0, 0)) := block_new _ _
  have HLEN := Lib.hid hlen
  have HFINE := Lib.hid hfine
  obtain ⟨i0, hi, hz0, hz1, hz2⟩ := info_parts info5
  unfold scr
  go_enter Try.func5, Try.ntmps5
  go_wp2_with fail
  generalize hW1 : w.alloc (.cells #[.int .i64 size, .int .i64 sectors, .int .i64 frames, .slice a l.length cap] 24) = W1 at *
  generalize hD : w.heap.size = D at *
  have hDl : D < W1.heap.size := lt_of_block b1
  have HIN : Hid (0 < l.length → ∃ g off, a = some ⟨g, off, none⟩ ∧ ∀ W, Below W1.heap.size W1 W → ∀ i (h : i < l.length), OpCellsC W g (off + i * 5) l[i]) := fun h0 => by
    obtain ⟨g, off, e, hg, q⟩ := hin h0
    refine ⟨g, off, e, fun W k i h => ?_⟩
    have hg1 : g < W1.heap.size := by omega
    have cc : ∀ p, W.cell? ⟨g, p, none⟩ = w.cell? ⟨g, p, none⟩ := fun p => (k.cell (p := ⟨g, p, none⟩) hg1).trans (B1.cell (p := ⟨g, p, none⟩) hg)
    obtain ⟨q0, q1, q2, q3, q4⟩ := q i h
    exact ⟨(cc _).trans q0, (cc _).trans q1, (cc _).trans q2, (cc _).trans q3, (cc _).trans q4⟩
  have HBOX : Hid (∀ W, Below W1.heap.size W1 W → W.heap[D]? = some (.cells #[.int .i64 size, .int .i64 sectors, .int .i64 frames, .slice a l.length cap] 24 (0, 0))) := fun W k => below_keeps k b1 hDl
  have HB1 := Lib.hid B1
  have HDe := Lib.hid hD
  clear hin hW1 hD b1 hfine hlen B1
  refine (alone_any W1 size sectors frames a l.length cap).mono ?_
  rintro e w2 (⟨hf, hfr, db, cb, col, rfl, hC, hE⟩ | ⟨hno, rfl, k2⟩)
  · obtain ⟨sz, rfl⟩ := Int.eq_ofNat_of_zero_le (show 0 ≤ size by have := (fits_bounds hf).1; omega)
    obtain ⟨sn, rfl⟩ := Int.eq_ofNat_of_zero_le (show 0 ≤ sectors by have := (fits_bounds hf).2.2.1; omega)
    obtain ⟨fr, rfl⟩ := Int.eq_ofNat_of_zero_le (show 0 ≤ frames by omega)
    have HSZ : Hid (512 ≤ (sz : Int) ∧ (sz : Int) ≤ 4096 ∧ 1 ≤ (sn : Int) ∧ (sn : Int) ≤ 4096) := fits_bounds hf
    have hsn := HSZ.out
    have hmk : ∀ u : World, (Instr.makeSlice 34 (.int .i64 (sn : Int)) (.int .i64 (sn : Int))).run Try.prog u =
        .ok (.slice (some ⟨u.heap.size, 0, none⟩) sn sn) (u.alloc (.cells (bcells (zeros sn)).toArray 5)) := fun u => by
      have h := run_make (P := Try.prog) u 34 5 i0 (.int .u8 0) Try.underlying34 hi hz0 .i64 .i64 (sn : Int) (sn : Int) (by omega) (Int.le_refl _) (by rw [hz2]; omega) (by omega)
      rw [hz1, Nat.mul_one] at h
      rw [← madeCells_zeros]
      exact h
    have hT0 : HoldS (CS.new (DS.new sz sn) fr) sn sz (List.replicate sn 0) 0 := ⟨newS_Ok hf hfr, rfl, by simp [CS.new, DS.new], sameT_new hf⟩
    have hb2 := HBOX.out w2 hE.bel
    have bx1 : w2.cell? ⟨D, 1, none⟩ = some (.int .i64 sn) := by rw [cell_of_block hb2]; rfl
    have bx3 : w2.cell? ⟨D, 3, none⟩ = some (.slice a l.length cap) := by rw [cell_of_block hb2]; rfl
    have hDl2 : D < w2.heap.size := cell_lt bx1
    clear hb2 hf hfr hsn
    unfold ptr
    go_wp2_with fail
    have bN := block_new w2 (.cells (bcells (zeros sn)).toArray 5 (0, 0))
    have hC3 := hC.below ((Below.refl w2.heap.size w2).alloc (Nat.le_refl _) (.cells (bcells (zeros sn)).toArray 5))
    have hE3 := hE.below ((Below.refl w2.heap.size w2).alloc (Nat.le_refl _) (.cells (bcells (zeros sn)).toArray 5))
    have hN0 : col w2.heap.size = 0 := hE.norm _ (Nat.le_refl _)
    have hNW : W1.heap.size ≤ w2.heap.size := hE.size
    generalize w2.alloc (.cells (bcells (zeros sn)).toArray 5) = w3 at *
    generalize w2.heap.size = NB at *
    have HNW := Lib.hid hNW
    clear hmk hC hE bx1 hDl2 hNW
    go_loopw [35] (fun i wr => ∃ (k : Nat) (col' : Nat → Nat) (t : CS) (now : List Int), k ≤ l.length ∧ i = .int .i64 k ∧ CacheAt wr col' 2 cb db t ∧ Env W1 col' wr ∧ HoldS t sn sz now k ∧ wr.heap[NB]? = some (.cells (bcells now).toArray 5 (0, 0)) ∧ col' NB = 0) (fun i _ => l.length - (intOf i).toNat)
    case atStart => exact ⟨0, col, _, _, Nat.zero_le _, rfl, hC3, hE3, hT0, bN, hN0⟩
    case round =>
      obtain ⟨k, col', t, now, hk, rfl, hCk, hEk, hTk, hNk, hN0k⟩ := hrel
      clear hC3 hE3 hT0 bx3 bN hN0
      have hln := HLEN.out
      have i0 : (0 : Int) ≤ (k : Int) := by omega
      have jb : (k : Int) ≤ 174762 := by omega
      by_cases hlt : k < l.length
      · have i1 : (k : Int) < (l.length : Int) := by omega
        obtain ⟨g, off, rfl, hcell⟩ := HIN.out (by omega)
        obtain ⟨e0, e1, e2, e3, e4⟩ := hcell wr hEk.bel k hlt
        have hfi := HFINE.out _ (List.getElem_mem hlt)
        clear hcell
        generalize l[k] = o at *
        obtain ⟨okind, osec, ofill, oshort, oord⟩ := o
        simp only at e0 e1 e2 e3 e4
        have HCk := Lib.hid hCk
        have HEk := Lib.hid hEk
        have HTk := Lib.hid hTk
        have HNk := Lib.hid hNk
        have HN0 := Lib.hid hN0k
        have HFI := Lib.hid hfi
        clear hCk hEk hTk hfi hln hNk hN0k
        go_upto_block 2 with fail
        have bo := block_new wr (.cells #[.int .i64 okind, .int .i64 osec, .int .u8 ofill, .int .i64 oshort, .int .u64 oord] 31)
        have K3 : Below wr.heap.size wr (wr.alloc (.cells #[.int .i64 okind, .int .i64 osec, .int .u8 ofill, .int .i64 oshort, .int .u64 oord] 31)) := (Below.refl _ _).alloc (Nat.le_refl _) _
        generalize wr.alloc (.cells #[.int .i64 okind, .int .i64 osec, .int .u8 ofill, .int .i64 oshort, .int .u64 oord] 31) = w4 at *
        have hO0 : col' wr.heap.size = 0 := HEk.out.norm _ (Nat.le_refl _)
        have hNl : NB < wr.heap.size := lt_of_block HNk.out
        have HC4 := Lib.hid (HCk.out.below K3)
        have HE4 := Lib.hid (HEk.out.below K3)
        have HN4 := Lib.hid (below_keeps K3 HNk.out hNl)
        generalize hO : wr.heap.size = O at *
        have hol : O < w4.heap.size := lt_of_block bo
        have hNO : NB ≠ O := by omega
        have c0 : w4.cell? ⟨O, 0, none⟩ = some (.int .i64 okind) := by rw [cell_of_block bo]; rfl
        have c1 : w4.cell? ⟨O, 1, none⟩ = some (.int .i64 osec) := by rw [cell_of_block bo]; rfl
        have c2 : w4.cell? ⟨O, 2, none⟩ = some (.int .u8 ofill) := by rw [cell_of_block bo]; rfl
        have c4 : w4.cell? ⟨O, 4, none⟩ = some (.int .u64 oord) := by rw [cell_of_block bo]; rfl
        have hpd : t.d.pending.length ≤ 1073690000 := by have := HTk.out.pend; omega
        have HPD := Lib.hid hpd
        -- what stands behind a call of the cache
        have HS : Hid (∀ W colW, KStep 2 col' colW w4 W → (W.cell? ⟨O, 1, none⟩ = some (.int .i64 osec) ∧ W.cell? ⟨O, 2, none⟩ = some (.int .u8 ofill) ∧ W.cell? ⟨O, 4, none⟩ = some (.int .u64 oord) ∧ W.cell? ⟨D, 0, none⟩ = some (.int .i64 sz) ∧ W.cell? ⟨D, 1, none⟩ = some (.int .i64 sn)) ∧ W.heap[NB]? = some (.cells (bcells now).toArray 5 (0, 0)) ∧ colW NB = 0 ∧ Env W1 colW W) := fun W colW q => by
          have hE := HE4.out.kstep q (by omega)
          have hb := HBOX.out W hE.bel
          have hk : ∀ i, W.cell? ⟨O, i, none⟩ = w4.cell? ⟨O, i, none⟩ := fun i => q.chg.cell (p := ⟨O, i, none⟩) hol (fun e => by have e : inK col' 2 O := e; unfold inK at e; omega)
          refine ⟨⟨(hk _).trans c1, (hk _).trans c2, (hk _).trans c4, by rw [cell_of_block hb]; rfl, by rw [cell_of_block hb]; rfl⟩, ?_, ?_, hE⟩
          · exact (q.chg.block NB (by omega) (fun e => by have := HN0.out; unfold inK at e; omega)).trans HN4.out
          · rw [q.ext NB (by omega)]; exact HN0.out
        have HREL : Hid (∀ W colW t2, CacheAt W colW 2 cb db t2 → KStep 2 col' colW w4 W → Keeps t t2 → SameT t2 sn sz now → CacheAt W colW 2 cb db t2 ∧ Env W1 colW W ∧ HoldS t2 sn sz now (k + 1) ∧ W.heap[NB]? = some (.cells (bcells now).toArray 5 (0, 0)) ∧ colW NB = 0) := fun W colW t2 h1 h2 h3 h4 => by
          obtain ⟨_, h5, h6, h7⟩ := HS.out W colW h2
          exact ⟨h1, h7, HTk.out.next h3 h4, h5, h6⟩
        clear hpd HCk HEk e0 e1 e2 e3 e4 K3 bo
        have hside : okind = 0 ∨ okind = 1 ∨ okind = 2 ∨ okind = 3 ∨ okind = 4 ∨ okind = 5 ∨ okind = 6 ∨ ((okind == 0) = false ∧ (okind == 1) = false ∧ (okind == 2) = false ∧ (okind == 3) = false ∧ (okind == 4) = false ∧ (okind == 5) = false ∧ (okind == 6) = false) := by
          by_cases h0 : okind = 0; · exact Or.inl h0
          by_cases h1 : okind = 1; · exact Or.inr (Or.inl h1)
          by_cases h2 : okind = 2; · exact Or.inr (Or.inr (Or.inl h2))
          by_cases h3 : okind = 3; · exact Or.inr (Or.inr (Or.inr (Or.inl h3)))
          by_cases h4 : okind = 4; · exact Or.inr (Or.inr (Or.inr (Or.inr (Or.inl h4))))
          by_cases h5 : okind = 5; · exact Or.inr (Or.inr (Or.inr (Or.inr (Or.inr (Or.inl h5)))))
          by_cases h6 : okind = 6; · exact Or.inr (Or.inr (Or.inr (Or.inr (Or.inr (Or.inr (Or.inl h6))))))
          exact Or.inr (Or.inr (Or.inr (Or.inr (Or.inr (Or.inr (Or.inr ⟨by simp [h0], by simp [h1], by simp [h2], by simp [h3], by simp [h4], by simp [h5], by simp [h6]⟩))))))
        rcases hside with rfl | rfl | rfl | rfl | rfl | rfl | rfl | ⟨n0, n1, n2, n3, n4, n5, n6⟩
        · go_wp2_with fail
          refine (get_law HC4.out (by omega) HE4.out.norm HTk.out.ok HPD.out osec HFI.out.sector).mono ?_
          rintro e w5 ⟨col5, h5, k5, ⟨hz5, a5, cap5, rfl, hs5⟩ | ⟨hz5, rfl⟩⟩
          · obtain ⟨hlb, hn0, hn1⟩ := fetch_bytes HTk.out.ok osec hz5
            obtain ⟨n, rfl⟩ := Int.eq_ofNat_of_zero_le hn0
            have hnow := HTk.out.same.len
            have hcnt := HTk.out.same.count
            have hnl : n < now.length := by omega
            have hcur := HTk.out.same.cur n hnl
            rw [hlb, hcur, show List.replicate sz now[n] = rep sz now[n] from rfl] at hs5
            have HFL := Lib.hid (HTk.out.same.byte _ (List.getElem_mem hnl))
            obtain ⟨⟨d1, d2, d4, x0, x1⟩, hN5, hN50, hE5⟩ := HS.out w5 col5 k5
            have cn := cell_bytes hN5 hnl
            have HG5 : Hid (RdAt w5 (Nil0 col5) 1 (.slice a5 sz cap5) sz (bcells (rep sz now[n]))) := by have := hs5.rd; rw [rep_len] at this; exact this
            have hSl : ((t.fetch n).2.lastBytes).length = sz := by rw [hlb, hcur]; simp
            rw [hSl]
            have HREL5 := Lib.hid (HREL.out w5 col5 _ h5 k5 (fetch_keeps HTk.out.ok _) (HTk.out.same.as (fetch_keeps HTk.out.ok _) (fetch_same HTk.out.ok HTk.out.same.clean _)))
            have K5 := Lib.hid k5
            have hn1' : (n : Int) < (sn : Int) := by omega
            have hn0' : ¬ (n : Int) < 0 := by omega
            have hge : ¬ (sn : Int) ≤ (n : Int) := by omega
            have hdn : decide ((n : Int) < 0) = false := by simp
            have hdg : decide ((sn : Int) ≤ (n : Int)) = false := by simp; omega
            have hnn : (0 : Int) ≤ (n : Int) := by omega
            have hdN : decide (sn ≤ n) = false := by simp; omega
            have hgN : ¬ sn ≤ n := by omega
            generalize now[n] = fl at *
            have HS5 : Hid (∀ W, Below w5.heap.size w5 W → W.cell? ⟨O, 1, none⟩ = some (.int .i64 (n : Int)) ∧ W.cell? ⟨D, 0, none⟩ = some (.int .i64 sz) ∧ W.cell? ⟨D, 1, none⟩ = some (.int .i64 sn) ∧ W.cell? ⟨NB, n, none⟩ = some (.int .u8 fl)) := fun W q =>
              ⟨(q.cell (p := ⟨O, 1, none⟩) (cell_lt d1)).trans d1, (q.cell (p := ⟨D, 0, none⟩) (cell_lt x0)).trans x0, (q.cell (p := ⟨D, 1, none⟩) (cell_lt x1)).trans x1, (q.cell (p := ⟨NB, n, none⟩) (cell_lt cn)).trans cn⟩
            clear hs5 h5 k5 hlb hnow hcnt hnl hcur hN5 hN50 hE5 hSl hz5 HS HREL
            go_wp2_with fail
            refine wp_region_held_drew (S := fun w' => w'.cell? ⟨O, 1, none⟩ = some (.int .i64 (n : Int)) ∧ w'.cell? ⟨D, 0, none⟩ = some (.int .i64 sz) ∧ w'.cell? ⟨D, 1, none⟩ = some (.int .i64 sn) ∧ w'.cell? ⟨NB, n, none⟩ = some (.int .u8 fl)) (by kernel_rfl) (HS5.out _ (show Below w5.heap.size w5 w5.drew from ⟨rfl, rfl, rfl, Nat.le_refl _, fun _ _ => rfl⟩)) (fun hHeld => ?_)
            refine wpAnyH_take (i := 0) (oi := _) (v := ?_) rfl (by kernel_rfl) (by kernel_rfl) (by kernel_rfl) (fun _ _ _ h => h) (Or.inl ⟨by rfl, ?_⟩) hHeld ?_
            rotate_left
            · intro w' hSw
              try dsimp only at hSw
              go_simp
              try with_reducible rfl
            try simp only [Act.put, List.getElem_toArray, List.getElem_cons_succ, List.getElem_cons_zero, List.setIfInBounds_toArray, List.set_cons_zero, List.set_cons_succ]
            refine wpAnyH_take (i := 1) (oi := _) (v := ?_) rfl (by kernel_rfl) (by kernel_rfl) (by kernel_rfl) (fun _ _ _ h => h) (Or.inl ⟨by rfl, ?_⟩) hHeld ?_
            rotate_left
            · intro w' hSw
              try dsimp only at hSw
              go_simp
              try with_reducible rfl
            try simp only [Act.put, List.getElem_toArray, List.getElem_cons_succ, List.getElem_cons_zero, List.setIfInBounds_toArray, List.set_cons_zero, List.set_cons_succ]
            refine wpAnyH_take (i := 2) (oi := _) (v := ?_) rfl (by kernel_rfl) (by kernel_rfl) (by kernel_rfl) (fun _ _ _ h => h) (Or.inl ⟨by rfl, ?_⟩) hHeld ?_
            rotate_left
            · intro w' hSw
              try dsimp only at hSw
              go_simp
              try with_reducible rfl
            try simp only [Act.put, List.getElem_toArray, List.getElem_cons_succ, List.getElem_cons_zero, List.setIfInBounds_toArray, List.set_cons_zero, List.set_cons_succ]
            refine wpAnyH_take (i := 3) (oi := _) (v := ?_) rfl (by kernel_rfl) (by kernel_rfl) (by kernel_rfl) (fun _ _ _ h => h) (Or.inl ⟨by rfl, ?_⟩) hHeld ?_
            rotate_left
            · intro w' hSw
              try dsimp only at hSw
              go_simp
              try with_reducible rfl
            try simp only [Act.put, List.getElem_toArray, List.getElem_cons_succ, List.getElem_cons_zero, List.setIfInBounds_toArray, List.set_cons_zero, List.set_cons_succ]
            refine wpAnyH_take (i := 4) (oi := _) (v := ?_) rfl (by kernel_rfl) (by kernel_rfl) (by kernel_rfl) (fun _ _ _ h => h) (Or.inl ⟨by rfl, ?_⟩) hHeld ?_
            rotate_left
            · intro w' hSw
              try dsimp only at hSw
              go_simp
              try with_reducible rfl
            try simp only [Act.put, List.getElem_toArray, List.getElem_cons_succ, List.getElem_cons_zero, List.setIfInBounds_toArray, List.set_cons_zero, List.set_cons_succ]
            refine wpAnyH_take (i := 5) (oi := _) (v := ?_) rfl (by kernel_rfl) (by kernel_rfl) (by kernel_rfl) (fun _ _ _ h => h) (Or.inl ⟨by rfl, ?_⟩) hHeld ?_
            rotate_left
            · intro w' hSw
              try dsimp only at hSw
              go_simp
              try with_reducible rfl
            try simp only [Act.put, List.getElem_toArray, List.getElem_cons_succ, List.getElem_cons_zero, List.setIfInBounds_toArray, List.set_cons_zero, List.set_cons_succ]
            refine wpAnyH_take (i := 6) (oi := _) (v := ?_) rfl (by kernel_rfl) (by kernel_rfl) (by kernel_rfl) (fun _ _ _ h => h) (Or.inl ⟨by rfl, ?_⟩) hHeld ?_
            rotate_left
            · intro w' hSw
              try dsimp only at hSw
              go_simp
              try with_reducible rfl
            try simp only [Act.put, List.getElem_toArray, List.getElem_cons_succ, List.getElem_cons_zero, List.setIfInBounds_toArray, List.set_cons_zero, List.set_cons_succ]
            refine wpAnyH_take (i := 7) (oi := _) (v := ?_) rfl (by kernel_rfl) (by kernel_rfl) (by kernel_rfl) (fun _ _ _ h => h) (Or.inl ⟨by rfl, ?_⟩) hHeld ?_
            rotate_left
            · intro w' hSw
              try dsimp only at hSw
              go_simp
              try with_reducible rfl
            try simp only [Act.put, List.getElem_toArray, List.getElem_cons_succ, List.getElem_cons_zero, List.setIfInBounds_toArray, List.set_cons_zero, List.set_cons_succ]
            refine wpAnyH_take (i := 8) (oi := _) (v := ?_) rfl (by kernel_rfl) (by kernel_rfl) (by kernel_rfl) (fun _ _ _ h => h) (Or.inl ⟨by rfl, ?_⟩) hHeld ?_
            rotate_left
            · intro w' hSw
              try dsimp only at hSw
              go_simp
              try with_reducible rfl
            try simp only [Act.put, List.getElem_toArray, List.getElem_cons_succ, List.getElem_cons_zero, List.setIfInBounds_toArray, List.set_cons_zero, List.set_cons_succ]
            refine wpAnyH_take (i := 9) (oi := _) (v := ?_) rfl (by kernel_rfl) (by kernel_rfl) (by kernel_rfl) (fun _ _ _ h => h) (Or.inl ⟨by rfl, ?_⟩) hHeld ?_
            rotate_left
            · intro w' hSw
              try dsimp only at hSw
              go_simp
              try with_reducible rfl
            try simp only [Act.put, List.getElem_toArray, List.getElem_cons_succ, List.getElem_cons_zero, List.setIfInBounds_toArray, List.set_cons_zero, List.set_cons_succ]
            refine wpAnyH_take (i := 10) (oi := _) (v := ?_) rfl (by kernel_rfl) (by kernel_rfl) (by kernel_rfl) (fun _ _ _ h => h) (Or.inl ⟨by rfl, ?_⟩) hHeld ?_
            rotate_left
            · intro w' hSw
              try dsimp only at hSw
              go_simp
              try with_reducible rfl
            try simp only [Act.put, List.getElem_toArray, List.getElem_cons_succ, List.getElem_cons_zero, List.setIfInBounds_toArray, List.set_cons_zero, List.set_cons_succ]
            refine wpAnyH_take (i := 11) (oi := _) (v := ?_) rfl (by kernel_rfl) (by kernel_rfl) (by kernel_rfl) (fun _ _ _ h => h) (Or.inl ⟨by rfl, ?_⟩) hHeld ?_
            rotate_left
            · intro w' hSw
              try dsimp only at hSw
              go_simp
              try with_reducible rfl
            try simp only [Act.put, List.getElem_toArray, List.getElem_cons_succ, List.getElem_cons_zero, List.setIfInBounds_toArray, List.set_cons_zero, List.set_cons_succ]
            refine wpAnyH_take (i := 12) (oi := _) (v := ?_) rfl (by kernel_rfl) (by kernel_rfl) (by kernel_rfl) (fun _ _ _ h => h) (Or.inl ⟨by rfl, ?_⟩) hHeld ?_
            rotate_left
            · intro w' hSw
              try dsimp only at hSw
              go_simp
              try with_reducible rfl
            try simp only [Act.put, List.getElem_toArray, List.getElem_cons_succ, List.getElem_cons_zero, List.setIfInBounds_toArray, List.set_cons_zero, List.set_cons_succ]
            refine wpAnyH_take (i := 13) (oi := _) (v := ?_) rfl (by kernel_rfl) (by kernel_rfl) (by kernel_rfl) (fun _ _ _ h => h) (Or.inl ⟨by rfl, ?_⟩) hHeld ?_
            rotate_left
            · intro w' hSw
              try dsimp only at hSw
              go_simp
              try with_reducible rfl
            try simp only [Act.put, List.getElem_toArray, List.getElem_cons_succ, List.getElem_cons_zero, List.setIfInBounds_toArray, List.set_cons_zero, List.set_cons_succ]
            refine wpAnyH_take (i := 14) (oi := _) (v := ?_) rfl (by kernel_rfl) (by kernel_rfl) (by kernel_rfl) (fun _ _ _ h => h) (Or.inl ⟨by rfl, ?_⟩) hHeld ?_
            rotate_left
            · intro w' hSw
              try dsimp only at hSw
              go_simp
              try with_reducible rfl
            try simp only [Act.put, List.getElem_toArray, List.getElem_cons_succ, List.getElem_cons_zero, List.setIfInBounds_toArray, List.set_cons_zero, List.set_cons_succ]
            refine wpAnyH_take (i := 15) (oi := _) (v := ?_) rfl (by kernel_rfl) (by kernel_rfl) (by kernel_rfl) (fun _ _ _ h => h) (Or.inl ⟨by rfl, ?_⟩) hHeld ?_
            rotate_left
            · intro w' hSw
              try dsimp only at hSw
              go_simp
              try with_reducible rfl
            try simp only [Act.put, List.getElem_toArray, List.getElem_cons_succ, List.getElem_cons_zero, List.setIfInBounds_toArray, List.set_cons_zero, List.set_cons_succ]
            refine wpAnyH_take (i := 16) (oi := _) (v := ?_) rfl (by kernel_rfl) (by kernel_rfl) (by kernel_rfl) (fun _ _ _ h => h) (Or.inl ⟨by rfl, ?_⟩) hHeld ?_
            rotate_left
            · intro w' hSw
              try dsimp only at hSw
              go_simp
              try with_reducible rfl
            try simp only [Act.put, List.getElem_toArray, List.getElem_cons_succ, List.getElem_cons_zero, List.setIfInBounds_toArray, List.set_cons_zero, List.set_cons_succ]
            refine wpAnyH_take (i := 17) (oi := _) (v := ?_) rfl (by kernel_rfl) (by kernel_rfl) (by kernel_rfl) (fun _ _ _ h => h) (Or.inl ⟨by rfl, ?_⟩) hHeld ?_
            rotate_left
            · intro w' hSw
              try dsimp only at hSw
              go_simp
              try with_reducible rfl
            try simp only [Act.put, List.getElem_toArray, List.getElem_cons_succ, List.getElem_cons_zero, List.setIfInBounds_toArray, List.set_cons_zero, List.set_cons_succ]
            refine wpAnyH_take (i := 18) (oi := _) (v := ?_) rfl (by kernel_rfl) (by kernel_rfl) (by kernel_rfl) (fun _ _ _ h => h) (Or.inl ⟨by rfl, ?_⟩) hHeld ?_
            rotate_left
            · intro w' hSw
              try dsimp only at hSw
              go_simp
              try with_reducible rfl
            try simp only [Act.put, List.getElem_toArray, List.getElem_cons_succ, List.getElem_cons_zero, List.setIfInBounds_toArray, List.set_cons_zero, List.set_cons_succ]
            refine wpAnyH_ready (rs := [19]) (by kernel_rfl) (by simp) ?_
            refine AllReadyH.cons (o := _) rfl (fun K hK => ?_) AllReadyH.nil
            go_simp
            refine (fill_any _ col5 (by exact K5.out.norm) sz fl (by have := HSZ.out; omega) HFL.out).mono ?_
            rintro e w6 ⟨⟨a6, cap6, rfl, hs6⟩, k6⟩
            try dsimp only
            refine hK.out _ _ (HS5.out _ (below_undrew k6)) (fun hHeld2 => ?_)
            clear hK K hHeld
            have hHeld := hHeld2
            clear hHeld2
            try simp only [Act.put, List.getElem_toArray, List.getElem_cons_succ, List.getElem_cons_zero, List.setIfInBounds_toArray, List.set_cons_zero, List.set_cons_succ]
            refine wpAnyH_ready (rs := [20]) (by kernel_rfl) (by simp) ?_
            refine AllReadyH.cons (o := _) rfl (fun K hK => ?_) AllReadyH.nil
            go_simp
            refine (same_any _ _ _ _ _ (rep sz fl) (by rw [rep_len]; exact HG5.out.below (below_undrew k6)) (by rw [rep_len]; exact hs6.rd)).mono ?_
            rintro e w7 ⟨rfl, rfl⟩
            try dsimp only
            refine hK.out _ _ (HS5.out _ (below_undrew k6)) (fun hHeld2 => ?_)
            clear hK K hHeld
            have hHeld := hHeld2
            clear hHeld2
            try simp only [Act.put, List.getElem_toArray, List.getElem_cons_succ, List.getElem_cons_zero, List.setIfInBounds_toArray, List.set_cons_zero, List.set_cons_succ]
            refine wpAnyH_take (i := 21) (oi := _) (v := ?_) rfl (by kernel_rfl) (by kernel_rfl) (by kernel_rfl) (fun _ _ _ h => h) (Or.inl ⟨by rfl, ?_⟩) hHeld ?_
            rotate_left
            · intro w' hSw
              try dsimp only at hSw
              go_simp
              try with_reducible rfl
            try simp only [Act.put, List.getElem_toArray, List.getElem_cons_succ, List.getElem_cons_zero, List.setIfInBounds_toArray, List.set_cons_zero, List.set_cons_succ]
            refine wpAnyH_take (i := 22) (oi := _) (v := ?_) rfl (by kernel_rfl) (by kernel_rfl) (by kernel_rfl) (fun _ _ _ h => h) (Or.inl ⟨by rfl, ?_⟩) hHeld ?_
            rotate_left
            · intro w' hSw
              try dsimp only at hSw
              go_simp
              try with_reducible rfl
            try simp only [Act.put, List.getElem_toArray, List.getElem_cons_succ, List.getElem_cons_zero, List.setIfInBounds_toArray, List.set_cons_zero, List.set_cons_succ]
            refine wpAnyH_done (by kernel_rfl) ?_ _
            go_wp2_with fail
            obtain ⟨r1, r2, r3, r4, r5⟩ := HREL5.out
            go_roundw
            case rel => exact ⟨k + 1, col5, _, now, by omega, by go_num, r1.below (below_undrew k6), r2.below (below_undrew k6), r3, below_keeps (below_undrew k6) r4 (lt_of_block r4), r5⟩
            case measure => simp [intOf]; omega
          · have hz' : ((t.fetch osec).1 == 0) = false := by simpa using hz5
            have HREL5 := Lib.hid (HREL.out w5 col5 _ h5 k5 (fetch_keeps HTk.out.ok _) (HTk.out.same.as (fetch_keeps HTk.out.ok _) (fetch_same HTk.out.ok HTk.out.same.clean _)))
            clear h5 k5 hz5
            go_wp2_with fail
            obtain ⟨r1, r2, r3, r4, r5⟩ := HREL5.out
            go_roundw
            case rel => exact ⟨k + 1, col5, _, now, by omega, by go_num, r1, r2, r3, r4, r5⟩
            case measure => simp [intOf]; omega
        · go_wp2_with fail
          refine (pin_law HC4.out (by omega) HE4.out.norm HTk.out.ok HPD.out osec HFI.out.sector).mono ?_
          rintro e w5 ⟨col5, h5, k5, ⟨-, a5, cap5, rfl, -⟩ | ⟨-, rfl⟩⟩
          all_goals
            have HREL5 := Lib.hid (HREL.out w5 col5 _ h5 k5 (pin_keeps HTk.out.ok _) (HTk.out.same.as (pin_keeps HTk.out.ok _) (pin_same HTk.out.ok HTk.out.same.clean _)))
            clear h5 k5
            go_wp2_with fail
            obtain ⟨r1, r2, r3, r4, r5⟩ := HREL5.out
            go_roundw
            case rel => exact ⟨k + 1, col5, _, now, by omega, by go_num, r1, r2, r3, r4, r5⟩
            case measure => simp [intOf]; omega
        · go_wp2_with fail
          refine (unpin_law HC4.out (by omega) HE4.out.norm HTk.out.ok osec HFI.out.sector).mono ?_
          rintro e w5 ⟨rfl, col5, h5, k5, -⟩
          have HREL5 := Lib.hid (HREL.out w5 col5 _ h5 k5 (unpin_keeps HTk.out.ok _) (HTk.out.same.as (unpin_keeps HTk.out.ok _) (unpin_same HTk.out.ok HTk.out.same.clean _)))
          clear h5 k5
          go_wp2_with fail
          obtain ⟨r1, r2, r3, r4, r5⟩ := HREL5.out
          go_roundw
          case rel => exact ⟨k + 1, col5, _, now, by omega, by go_num, r1, r2, r3, r4, r5⟩
          case measure => simp [intOf]; omega
        · go_wp2_with fail
          go_region_held3 (fun W => W.cell? ⟨O, 1, none⟩ = some (.int .i64 osec) ∧ W.cell? ⟨O, 2, none⟩ = some (.int .u8 ofill) ∧ W.cell? ⟨O, 4, none⟩ = some (.int .u64 oord) ∧ W.cell? ⟨D, 0, none⟩ = some (.int .i64 sz) ∧ W.cell? ⟨D, 1, none⟩ = some (.int .i64 sn)) (first | exact (HS.out _ _ (KStep.refl 2 HE4.out.norm).drew).1 | exact (HS.out _ _ ((KStep.below HE4.out.norm (below_undrew k5)).trans k6)).1 | exact (HS.out _ _ (KStep.below HE4.out.norm (below_undrew k5))).1) ((first | (go_at_call 15; refine (fill_any _ col' (by first | exact HE4.out.norm.grow (Nat.le_refl _) | exact HE4.out.norm) sz ofill (by have := HSZ.out; omega) HFI.out.fill).mono ?_; rintro e w5 ⟨⟨a5, cap5, rfl, hs5⟩, k5⟩) | (go_at_call 14; refine (put_law (HC4.out.below (below_undrew k5)) (by omega) (HE4.out.below (below_undrew k5)).norm HTk.out.ok HPD.out osec HFI.out.sector _ (rep sz ofill) oord (by rw [rep_len]; exact hs5.rd)).mono ?_; rintro e w6 ⟨rfl, col6, h6, k6, -⟩)))
          have k46 := (KStep.below HE4.out.norm (below_undrew k5)).trans k6
          have HKP := Lib.hid (put_keeps HTk.out.ok osec (rep sz ofill) oord HFI.out.order)
          by_cases hz : (t.put osec (rep sz ofill) oord).1 = 0
          · obtain ⟨⟨hn0, hn1⟩, hsame⟩ := HTk.out.same.put HTk.out.ok (n := osec) (f := ofill) (o := oord) HFI.out.order HFI.out.fill hz
            obtain ⟨n, rfl⟩ := Int.eq_ofNat_of_zero_le hn0
            have hz' : ((t.put (n : Int) (rep sz ofill) oord).1 == 0) = true := by simpa using hz
            have hnow := HTk.out.same.len
            have hnl : n < now.length := by omega
            obtain ⟨⟨d1, d2, d4, x0, x1⟩, hN6, hN60, hE6⟩ := HS.out w6 col6 k46
            have cn := cell_bytes hN6 hnl
            have fn := free_of_block hN6 n
            have hdN : decide (sn ≤ n) = false := by simp; omega
            have hgN : ¬ sn ≤ n := by omega
            have hgZ : ¬ (sn : Int) ≤ (n : Int) := by omega
            have hnn : (0 : Int) ≤ (n : Int) := by omega
            have hn1' : (n : Int) < (sn : Int) := by omega
            have KC := (Chg.refl (fun i => i = NB) w6).setCell ⟨NB, n, none⟩ (.int .u8 ofill) (fun _ => rfl)
            have HCF := Lib.hid (CacheAt.outer h6 hN60 KC)
            have HEF : Hid (Env W1 col6 (w6.setCell ⟨NB, n, none⟩ (.int .u8 ofill))) := ⟨hE6.norm.grow (by simp), hE6.zero, hE6.bel.setCell HNW.out _⟩
            have HHF : Hid (HoldS (t.put (n : Int) (rep sz ofill) oord).2 sn sz (now.set n ofill) (k + 1)) := HTk.out.next HKP.out (by have := hsame; rw [Int.toNat_natCast] at this; exact this)
            have HNF : Hid ((w6.setCell ⟨NB, n, none⟩ (.int .u8 ofill)).heap[NB]? = some (.cells (bcells (now.set n ofill)).toArray 5 (0, 0))) := by show _ = _; rw [block_set hN6, set_bytes]
            have HN6 := Lib.hid hN60
            clear hs5 k5 h6 k6 k46 hsame hnow hN6 hN60 hE6 KC hz HS HREL hn0 hn1
            go_wp2_with fail
            go_roundw
            case rel => exact ⟨k + 1, col6, _, now.set n ofill, by omega, by go_num, HCF.out, HEF.out, HHF.out, HNF.out, HN6.out⟩
            case measure => simp [intOf]; omega
          · have hz' : ((t.put osec (rep sz ofill) oord).1 == 0) = false := by simpa using hz
            have HREL5 := Lib.hid (HREL.out w6 col6 _ h6 k46 HKP.out (HTk.out.same.as HKP.out ((put_same HTk.out.ok HTk.out.same.clean osec (rep sz ofill) oord HFI.out.order).2 hz)))
            clear h6 k6 k46 hs5 k5 hz
            go_wp2_with fail
            obtain ⟨r1, r2, r3, r4, r5⟩ := HREL5.out
            go_roundw
            case rel => exact ⟨k + 1, col6, _, now, by omega, by go_num, r1, r2, r3, r4, r5⟩
            case measure => simp [intOf]; omega
        · go_wp2_with fail
          refine (upto_law HC4.out (by omega) HE4.out.norm HTk.out.ok HPD.out oord).mono ?_
          rintro e w5 ⟨rfl, col5, h5, k5, -⟩
          have HREL5 := Lib.hid (HREL.out w5 col5 _ h5 k5 (upTo_keeps HTk.out.ok _) (HTk.out.same.as (upTo_keeps HTk.out.ok _) (upTo_is HTk.out.ok HTk.out.same.clean _).1))
          clear h5 k5
          go_wp2_with fail
          obtain ⟨r1, r2, r3, r4, r5⟩ := HREL5.out
          go_roundw
          case rel => exact ⟨k + 1, col5, _, now, by omega, by go_num, r1, r2, r3, r4, r5⟩
          case measure => simp [intOf]; omega
        · go_wp2_with fail
          refine (sync_law HC4.out (by omega) HE4.out.norm HTk.out.ok HPD.out).mono ?_
          rintro e w5 ⟨rfl, col5, h5, k5, -⟩
          have HREL5 := Lib.hid (HREL.out w5 col5 _ h5 k5 (sync_keeps HTk.out.ok) (HTk.out.same.sync HTk.out.ok))
          clear h5 k5
          go_wp2_with fail
          obtain ⟨r1, r2, r3, r4, r5⟩ := HREL5.out
          go_roundw
          case rel => exact ⟨k + 1, col5, _, now, by omega, by go_num, r1, r2, r3, r4, r5⟩
          case measure => simp [intOf]; omega
        · go_wp2_with fail
          refine (drop_law HC4.out (by omega) HE4.out.norm HTk.out.ok).mono ?_
          rintro e w5 ⟨rfl, col5, h5, k5, -⟩
          have HREL5 := Lib.hid (HREL.out w5 col5 _ h5 k5 (drop_keeps HTk.out.ok) (HTk.out.same.as (drop_keeps HTk.out.ok) (drop_same HTk.out.ok HTk.out.same.clean)))
          clear h5 k5
          go_wp2_with fail
          obtain ⟨r1, r2, r3, r4, r5⟩ := HREL5.out
          go_roundw
          case rel => exact ⟨k + 1, col5, _, now, by omega, by go_num, r1, r2, r3, r4, r5⟩
          case measure => simp [intOf]; omega
        · have HREL5 := Lib.hid (HREL.out w4 col' _ HC4.out (KStep.refl 2 HE4.out.norm) (Keeps.refl HTk.out.ok) HTk.out.same)
          go_wp2_with fail
          obtain ⟨r1, r2, r3, r4, r5⟩ := HREL5.out
          go_roundw
          case rel => exact ⟨k + 1, col', _, now, by omega, by go_num, r1, r2, r3, r4, r5⟩
          case measure => simp [intOf]; omega
      · obtain rfl : k = l.length := by omega
        have hpd : t.d.pending.length ≤ 1073690000 := by have := hTk.pend; omega
        have HE := Lib.hid hEk
        have HT := Lib.hid hTk
        have HN := Lib.hid hNk
        have HN0 := Lib.hid hN0k
        have HC := Lib.hid hCk
        have HPD := Lib.hid hpd
        clear hEk hTk hNk hN0k hCk hpd hln
        go_wp2_with fail
        refine (sync_law HC.out (by omega) HE.out.norm HT.out.ok HPD.out).mono ?_
        rintro e w5 ⟨rfl, col5, ⟨rb5, mb5, ns5, h5⟩, k5, -⟩
        have hdk := h5.disk
        obtain ⟨hcl, hpend, hsec⟩ := sync_same HT.out.ok HT.out.same.clean
        have okS := (sync_keeps HT.out.ok)
        have hcntS : t.sync.d.count = sn := okS.count.trans HT.out.same.count
        have hE5 := HE.out.kstep k5 (by omega)
        have hN5 : w5.heap[NB]? = some (.cells (bcells now).toArray 5 (0, 0)) := (k5.chg.block NB (lt_of_block HN.out) (fun e => by have := HN0.out; unfold inK at e; omega)).trans HN.out
        have hN50 : col5 NB = 0 := by rw [k5.ext NB (lt_of_block HN.out)]; exact HN0.out
        have HCR := Lib.hid (crash_law w5 col5 2 db t.sync.d (.slice none 0 0) [] hdk (by omega) okS.ok.d hE5.norm (by rw [hpend]; simp) ⟨by simp, _, _, rfl, Nat.le_refl _, by unfold maxLen; omega, fun h => by simp at h⟩)
        have hsecS : ∀ n (h : n < now.length), (t.sync.d.crash []).sector n = rep sz now[n] := fun n h => by
          have h1 := hsec n (by omega) (by have := HT.out.same.len; have := HT.out.same.count; omega)
          have h2 := HT.out.same.cur n h
          rw [crash_nil]
          have e1 : ({ t.sync.d with pending := [], stops := false, left := 0 } : DS).sector (n : Int) = t.sync.d.base n := rfl
          have e2 : t.sync.d.sector (n : Int) = t.sync.d.base n := by unfold DS.sector; rw [hpend]; rfl
          rw [e1, ← e2, h1, h2]; rfl
        have HSEC := Lib.hid hsecS
        have okC := crash_Ok okS.ok.d (keep := []) (keepOk_nil _)
        have hcC : (t.sync.d.crash []).count = sn := by rw [crash_nil]; exact hcntS
        have hpC : (t.sync.d.crash []).pending = [] := by rw [crash_nil]
        have HE5 := Lib.hid hE5
        have HN5 := Lib.hid hN5
        have HN50 := Lib.hid hN50
        have HDC := Lib.hid (And.intro okC (And.intro hcC hpC))
        generalize t.sync.d.crash [] = d1 at *
        clear h5 k5 hdk hcl hpend hsec okS hcntS hE5 hN5 hN50 hsecS okC hcC hpC
        go_wp2_with fail
        refine HCR.out.mono ?_
        rintro e w6 (⟨-, rfl, col6, hd6, st6⟩ | ⟨hbad, -⟩)
        · have hE6 := HE5.out.step st6 (by omega)
          have hN6 : w6.heap[NB]? = some (.cells (bcells now).toArray 5 (0, 0)) := (st6.chg.block NB (lt_of_block HN5.out) (fun e => by have := HN50.out; unfold inC at e; omega)).trans HN5.out
          have hN60 : col6 NB = 0 := by rw [st6.ext NB (lt_of_block HN5.out)]; exact HN50.out
          have HNL := Lib.hid HT.out.same.len
          have HBY := Lib.hid HT.out.same.byte
          clear HCR st6
          go_wp2_with fail
          go_loopw [143] (fun i wr => ∃ (j : Nat) (dd : DS) (col' : Nat → Nat), j ≤ sn ∧ i = .int .i64 j ∧ DiskAt wr 86 col' 2 db dd ∧ Env W1 col' wr ∧ dd.Ok ∧ dd.count = sn ∧ dd.pending = [] ∧ (∀ n (h : n < now.length), dd.sector n = rep sz now[n]) ∧ wr.heap[NB]? = some (.cells (bcells now).toArray 5 (0, 0)) ∧ col' NB = 0) (fun i _ => sn - (intOf i).toNat)
          case atStart => exact ⟨0, d1, col6, Nat.zero_le _, rfl, hd6, hE6, HDC.out.1, HDC.out.2.1, HDC.out.2.2, HSEC.out, hN6, hN60⟩
          case round =>
            obtain ⟨j, dd, col7, hj, rfl, hd7, hE7, ok7, hc7, hp7, hs7, hN7, hN70⟩ := hrel
            clear hd6 hE6 hN6 hN60
            have hsn := HSZ.out
            have j0 : (0 : Int) ≤ (j : Int) := by omega
            have j9 : (j : Int) ≤ 4096 := by omega
            by_cases hjn : j < sn
            · have j1 : (j : Int) < (sn : Int) := by omega
              have hjl : j < now.length := by have := HNL.out; omega
              have cn := cell_bytes hN7 hjl
              have hsj := hs7 j hjl
              have HFL := Lib.hid (HBY.out _ (List.getElem_mem hjl))
              have x0 : wr.cell? ⟨D, 0, none⟩ = some (.int .i64 sz) := by rw [cell_of_block (HBOX.out wr hE7.bel)]; rfl
              have HRD := Lib.hid (read_law wr col7 2 db dd j hd7 (by omega) ok7 hE7.norm (by rw [hp7]; simp) j0 (by rw [hc7]; exact j1))
              have HE7 := Lib.hid hE7
              have H7 := Lib.hid (And.intro (read_Ok ok7) (And.intro hc7 (And.intro hp7 hs7)))
              have HN7 := Lib.hid hN7
              have HN70 := Lib.hid hN70
              have HSJ := Lib.hid hsj
              clear hd7 hE7 ok7 hc7 hp7 hs7 hN7 hN70 hsn hsj
              generalize now[j] = fl at *
              go_wp2_with fail
              refine HRD.out.mono ?_
              rintro e w8 ⟨⟨a8, cap8, rfl, hr8⟩, hd8, st8⟩
              rw [HSJ.out] at hr8 ⊢
              rw [rep_len] at hr8 ⊢
              have hE8 := HE7.out.step st8 (by omega)
              have y0 : w8.cell? ⟨D, 0, none⟩ = some (.int .i64 sz) := by rw [cell_of_block (HBOX.out w8 hE8.bel)]; rfl
              have hN8 : w8.heap[NB]? = some (.cells (bcells now).toArray 5 (0, 0)) := (st8.chg.block NB (lt_of_block HN7.out) (fun e => by have := HN70.out; unfold inC at e; omega)).trans HN7.out
              have HE8 := Lib.hid hE8
              have HD8 := Lib.hid hd8
              have HR8 := Lib.hid hr8
              have HN8 := Lib.hid hN8
              clear HRD x0 cn hr8 hd8 st8 hE8 hN8
              go_wp2_with fail
              refine (fill_any w8 col7 HE8.out.norm sz fl (by have := HSZ.out; omega) HFL.out).mono ?_
              rintro e w9 ⟨⟨a9, cap9, rfl, hs9⟩, k9⟩
              have HS9 := Lib.hid hs9.rd
              have K9 := Lib.hid k9
              clear hs9 k9 y0
              go_wp2_with fail
              refine (same_any _ _ _ _ _ (rep sz fl) (by rw [rep_len]; exact HR8.out.below K9.out) (by rw [rep_len]; exact HS9.out)).mono ?_
              rintro e w10 ⟨rfl, rfl⟩
              go_wp2_with fail
              go_roundw
              case rel => exact ⟨j + 1, dd.read, col7, by omega, by go_num, HD8.out.below K9.out, HE8.out.below K9.out, H7.out.1, H7.out.2.1, H7.out.2.2.1, H7.out.2.2.2, below_keeps K9.out HN8.out (lt_of_block HN8.out), HN70.out⟩
              case measure => simp [intOf]; omega
            · obtain rfl : j = sn := by omega
              have HE7 := Lib.hid hE7
              clear hd7 hE7 ok7 hc7 hp7 hs7 hN7 hN70 hsn
              go_wp2_with fail
              go_ret
              rw [HDe.out]
              exact ⟨rfl, HB1.out.trans (HE7.out.bel.mono (by omega))⟩
        · exact absurd (keepOk_nil _) hbad
  · go_wp2_with fail
    go_ret
    rw [HDe.out]
    exact ⟨rfl, HB1.out.trans (k2.mono (by omega))⟩
end Go.Proofs.Ytjjgihaikcnjgaa
