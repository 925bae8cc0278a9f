/-
  CacheOrdered: the walk.
-/
import Derived.Test.YtjjgihaikcnjgaaCOrdW
namespace Go.Proofs.Ytjjgihaikcnjgaa
open Go.RowKit Go.Maps
set_option linter.unusedSimpArgs false
set_option linter.unusedVariables false
set_option maxRecDepth 100000

/-- what a round leaves -/
structure HoldO (t : CS) (sz : Int) (k : Nat) : Prop where
  ok : t.Ok
  size : t.d.size = sz
  pend : t.d.pending.length ≤ k * 4096
  clean : Clean t
theorem HoldO.next {s t : CS} {sz : Int} {k : Nat} (h : HoldO s sz k) (q : Keeps s t) (a : Clean t) : HoldO t sz (k + 1) :=
  ⟨q.ok, q.size.trans h.size, by have := q.pend; have := h.pend; omega, a⟩
theorem Wro.any {s t : CS} {L : List Frm} (h : Wro s t (fun _ => False) L) (ex : Int → Prop) : Wro s t ex L := h.sub rfl (fun g hg hd _ => ⟨g, hg, rfl, hd, not_false⟩)
theorem Wro.to {s t : CS} {ex ex' : Int → Prop} {L : List Frm} (h : Wro s t ex L) (k : ∀ m, ex m → ex' m) : Wro s t ex' L := h.sub rfl (fun g hg hd x => ⟨g, hg, rfl, hd, fun e => x (k _ e)⟩)
theorem put_clean {t : CS} (ok : t.Ok) (hc : Clean t) (n : Int) (l : List Int) (o : Int) (ho : 0 ≤ o ∧ o ≤ 18446744073709551615) : Clean (t.put n l o).2 := by
  by_cases h : (t.put n l o).1 = 0
  · exact ((put_same ok hc n l o ho).1 h).1
  · exact ((put_same ok hc n l o ho).2 h).clean
set_option maxHeartbeats 16000000 in
theorem ordered_any (w : World) (v : Value) (x : Scr) (hx : ScrAt w v x) : Calls Try.prog 4 #[v] w fun e w' => e = .returned (.bool true) ∧ Below w.heap.size w w' := by
  obtain ⟨a, cap, rfl, hlen, hfine, hin⟩ := hx
  obtain ⟨size, sectors, frames, l⟩ := x
  simp only at *
  have B1 : Below w.heap.size w (w.alloc (.cells #[.int .i64 size, .int .i64 sectors, .int .i64 frames, .slice a l.length cap] 24)) := (Below.refl _ _).alloc (Nat.le_refl _) _
  have b1 : (w.alloc (.cells #[.int .i64 size, .int .i64 sectors, .int .i64 frames, .slice a l.length cap] 24)).heap[w.heap.size]? = some (.cells #[.int .i64 size, .int .i64 sectors, .int .i64 frames, .slice a l.length cap] 24 (0, 0)) := block_new _ _
  have HLEN := Lib.hid hlen
  have HFINE := Lib.hid hfine
  obtain ⟨i9, hi9, hz90, hz91, hz92⟩ := info_parts info3
  unfold scr
  go_enter Try.func4, Try.ntmps4
  go_wp2_with fail
  generalize hW1 : w.alloc (.cells #[.int .i64 size, .int .i64 sectors, .int .i64 frames, .slice a l.length cap] 24) = W1 at *
  generalize hD : w.heap.size = D at *
  have hDl : D < W1.heap.size := lt_of_block b1
  have HIN : Hid (0 < l.length → ∃ g off, a = some ⟨g, off, none⟩ ∧ ∀ W, Below W1.heap.size W1 W → ∀ i (h : i < l.length), OpCellsC W g (off + i * 5) l[i]) := fun h0 => by
    obtain ⟨g, off, e, hg, q⟩ := hin h0
    refine ⟨g, off, e, fun W k i h => ?_⟩
    have hg1 : g < W1.heap.size := by omega
    have cc : ∀ p, W.cell? ⟨g, p, none⟩ = w.cell? ⟨g, p, none⟩ := fun p => (k.cell (p := ⟨g, p, none⟩) hg1).trans (B1.cell (p := ⟨g, p, none⟩) hg)
    obtain ⟨q0, q1, q2, q3, q4⟩ := q i h
    exact ⟨(cc _).trans q0, (cc _).trans q1, (cc _).trans q2, (cc _).trans q3, (cc _).trans q4⟩
  have HBOX : Hid (∀ W, Below W1.heap.size W1 W → W.heap[D]? = some (.cells #[.int .i64 size, .int .i64 sectors, .int .i64 frames, .slice a l.length cap] 24 (0, 0))) := fun W k => below_keeps k b1 hDl
  have HB1 := Lib.hid B1
  have HDe := Lib.hid hD
  clear hin hW1 hD b1 hfine hlen B1
  refine (alone_any W1 size sectors frames a l.length cap).mono ?_
  rintro e w2 (⟨hf, hfr, db, cb, col, rfl, hC, hE⟩ | ⟨hno, rfl, k2⟩)
  · obtain ⟨sz, rfl⟩ := Int.eq_ofNat_of_zero_le (show 0 ≤ size by have := (fits_bounds hf).1; omega)
    have hT0 : HoldO (CS.new (DS.new sz sectors) frames) sz 0 := ⟨newS_Ok hf hfr, rfl, by simp [CS.new, DS.new], fun f hf => by simp [CS.new] at hf⟩
    have hb2 := HBOX.out w2 hE.bel
    have bx3 : w2.cell? ⟨D, 3, none⟩ = some (.slice a l.length cap) := by rw [cell_of_block hb2]; rfl
    have HFR := Lib.hid hfr
    have HSZ : Hid (512 ≤ (sz : Int) ∧ (sz : Int) ≤ 4096) := ⟨(fits_bounds hf).1, (fits_bounds hf).2.1⟩
    clear hb2 hf hfr
    unfold ptr
    go_wp2_with fail
    go_loopw [28] (fun i wr => ∃ (k : Nat) (col' : Nat → Nat) (t : CS), k ≤ l.length ∧ i = .int .i64 k ∧ CacheAt wr col' 2 cb db t ∧ Env W1 col' wr ∧ HoldO t sz k) (fun i _ => l.length - (intOf i).toNat)
    case atStart => exact ⟨0, col, _, Nat.zero_le _, rfl, hC, hE, hT0⟩
    case round =>
      obtain ⟨k, col', t, hk, rfl, hCk, hEk, hTk⟩ := hrel
      clear hC hE hT0 bx3
      have hln := HLEN.out
      have i0 : (0 : Int) ≤ (k : Int) := by omega
      have jb : (k : Int) ≤ 174762 := by omega
      by_cases hlt : k < l.length
      · have i1 : (k : Int) < (l.length : Int) := by omega
        obtain ⟨g, off, rfl, hcell⟩ := HIN.out (by omega)
        obtain ⟨e0, e1, e2, e3, e4⟩ := hcell wr hEk.bel k hlt
        have hfi := HFINE.out _ (List.getElem_mem hlt)
        clear hcell
        generalize l[k] = o at *
        obtain ⟨okind, osec, ofill, oshort, oord⟩ := o
        simp only at e0 e1 e2 e3 e4
        have HCk := Lib.hid hCk
        have HEk := Lib.hid hEk
        have HTk := Lib.hid hTk
        have HFI := Lib.hid hfi
        clear hCk hEk hTk hfi hln
        go_wp2_with fail
        have bo := block_new wr (.cells #[.int .i64 okind, .int .i64 osec, .int .u8 ofill, .int .i64 oshort, .int .u64 oord] 31)
        have K3 : Below wr.heap.size wr (wr.alloc (.cells #[.int .i64 okind, .int .i64 osec, .int .u8 ofill, .int .i64 oshort, .int .u64 oord] 31)) := (Below.refl _ _).alloc (Nat.le_refl _) _
        generalize wr.alloc (.cells #[.int .i64 okind, .int .i64 osec, .int .u8 ofill, .int .i64 oshort, .int .u64 oord] 31) = w3 at *
        generalize hO : wr.heap.size = O at *
        have hol : O < w3.heap.size := lt_of_block bo
        have hO0 : col' O = 0 := HEk.out.norm O (by omega)
        have HC3 := Lib.hid (HCk.out.below (by rw [hO]; exact K3))
        have HE3 := Lib.hid (HEk.out.below (by rw [hO]; exact K3))
        have BO := Lib.hid bo
        clear HCk HEk e0 e1 e2 e3 e4 K3 hO bo
        refine (frames_law HC3.out HE3.out.norm HTk.out.ok).mono ?_
        rintro e w4 ⟨⟨a4, cap4, rfl, hs4⟩, k4⟩
        have HC4 := Lib.hid (HC3.out.below k4)
        have HE4 := Lib.hid (HE3.out.below k4)
        have HS4 := Lib.hid hs4.rd
        have BO4 := Lib.hid (below_keeps k4 BO.out hol)
        have hpd : t.d.pending.length ≤ 1073690000 := by have := HTk.out.pend; omega
        have HPD := Lib.hid hpd
        clear hs4 k4 HC3 HE3 BO hpd
        go_wp2_with fail
        refine (pend_law HC4.out HE4.out.norm HTk.out.ok HPD.out).mono ?_
        rintro e w5 ⟨⟨a5, cap5, rfl, -⟩, k5⟩
        have HC5 := Lib.hid (HC4.out.below k5)
        have HE5 := Lib.hid (HE4.out.below k5)
        have HS5 := Lib.hid (HS4.out.below k5)
        have bo5 := below_keeps k5 BO4.out (lt_of_block BO4.out)
        have c0 : w5.cell? ⟨O, 0, none⟩ = some (.int .i64 okind) := by rw [cell_of_block bo5]; rfl
        have c1 : w5.cell? ⟨O, 1, none⟩ = some (.int .i64 osec) := by rw [cell_of_block bo5]; rfl
        have c2 : w5.cell? ⟨O, 2, none⟩ = some (.int .u8 ofill) := by rw [cell_of_block bo5]; rfl
        have c3 : w5.cell? ⟨O, 3, none⟩ = some (.int .i64 oshort) := by rw [cell_of_block bo5]; rfl
        have c4 : w5.cell? ⟨O, 4, none⟩ = some (.int .u64 oord) := by rw [cell_of_block bo5]; rfl
        have x0 : w5.cell? ⟨D, 0, none⟩ = some (.int .i64 sz) := by rw [cell_of_block (HBOX.out w5 HE5.out.bel)]; rfl
        have HSEC : Hid (∀ n, t.d.sectors.length = n → t.d.sectors.length = n) := fun _ e => e
        generalize hn0 : t.d.sectors.length = n0 at *
        have HN0 := Lib.hid hn0
        have hS : Hid (∀ W colW, KStep 2 col' colW w5 W → W.cell? ⟨O, 0, none⟩ = some (.int .i64 okind) ∧ W.cell? ⟨O, 1, none⟩ = some (.int .i64 osec) ∧ W.cell? ⟨O, 2, none⟩ = some (.int .u8 ofill) ∧ W.cell? ⟨O, 3, none⟩ = some (.int .i64 oshort) ∧ W.cell? ⟨O, 4, none⟩ = some (.int .u64 oord) ∧ W.cell? ⟨D, 0, none⟩ = some (.int .i64 sz)) := fun W colW q => by
          have hb := HBOX.out W (HE5.out.kstep q (by omega)).bel
          have hk : ∀ i, W.cell? ⟨O, i, none⟩ = w5.cell? ⟨O, i, none⟩ := fun i => q.chg.cell (p := ⟨O, i, none⟩) (show O < w5.heap.size from cell_lt c0) (fun e => by have e : inK col' 2 O := e; unfold inK at e; omega)
          exact ⟨(hk _).trans c0, (hk _).trans c1, (hk _).trans c2, (hk _).trans c3, (hk _).trans c4, by rw [cell_of_block hb]; rfl⟩
        have HS := hS
        clear hS hn0 HSEC k5 bo5 HC4 HE4 HS4 BO4
        go_upto_block 2 with fail
        go_cut [10, 38] from 29 to 107 (fun sv _ wx => ∃ col2 t2, CacheAt wx col2 2 cb db t2 ∧ KStep 2 col' col2 w5 wx ∧ Keeps t t2 ∧ Clean t2 ∧ ((sv = .bool false ∧ ∃ L, Wro t t2 (fun m => okind = 3 ∧ m = osec) L) ∨ (sv = .bool true ∧ t2.d.sectors = [])))
        case first =>
          have hside : okind = 0 ∨ okind = 1 ∨ okind = 2 ∨ okind = 3 ∨ okind = 4 ∨ okind = 5 ∨ okind = 6 ∨ ((okind == 0) = false ∧ (okind == 1) = false ∧ (okind == 2) = false ∧ (okind == 3) = false ∧ (okind == 4) = false ∧ (okind == 5) = false ∧ (okind == 6) = false) := by
            by_cases h0 : okind = 0; · exact Or.inl h0
            by_cases h1 : okind = 1; · exact Or.inr (Or.inl h1)
            by_cases h2 : okind = 2; · exact Or.inr (Or.inr (Or.inl h2))
            by_cases h3 : okind = 3; · exact Or.inr (Or.inr (Or.inr (Or.inl h3)))
            by_cases h4 : okind = 4; · exact Or.inr (Or.inr (Or.inr (Or.inr (Or.inl h4))))
            by_cases h5 : okind = 5; · exact Or.inr (Or.inr (Or.inr (Or.inr (Or.inr (Or.inl h5)))))
            by_cases h6 : okind = 6; · exact Or.inr (Or.inr (Or.inr (Or.inr (Or.inr (Or.inr (Or.inl h6))))))
            exact Or.inr (Or.inr (Or.inr (Or.inr (Or.inr (Or.inr (Or.inr ⟨by simp [h0], by simp [h1], by simp [h2], by simp [h3], by simp [h4], by simp [h5], by simp [h6]⟩))))))
          rcases hside with rfl | rfl | rfl | rfl | rfl | rfl | rfl | ⟨n0, n1, n2, n3, n4, n5, n6⟩
          · go_wp2_with fail
            refine (get_law HC5.out (by omega) HE5.out.norm HTk.out.ok HPD.out osec HFI.out.sector).mono ?_
            rintro e w6 ⟨col6, h6, k6, ⟨-, a6, cap6, rfl, -⟩ | ⟨-, rfl⟩⟩
            all_goals
              go_wp2_with fail
              go_meet
              case rel => obtain ⟨L, hW⟩ := fetch_wro HTk.out.ok HTk.out.clean osec; exact ⟨col6, _, h6, k6, fetch_keeps HTk.out.ok _, (fetch_same HTk.out.ok HTk.out.clean _).clean, Or.inl ⟨rfl, L, hW.any _⟩⟩
          · go_wp2_with fail
            refine (pin_law HC5.out (by omega) HE5.out.norm HTk.out.ok HPD.out osec HFI.out.sector).mono ?_
            rintro e w6 ⟨col6, h6, k6, ⟨-, a6, cap6, rfl, -⟩ | ⟨-, rfl⟩⟩
            all_goals
              go_wp2_with fail
              go_meet
              case rel => obtain ⟨L, hW⟩ := pin_wro HTk.out.ok HTk.out.clean osec; exact ⟨col6, _, h6, k6, pin_keeps HTk.out.ok _, (pin_same HTk.out.ok HTk.out.clean _).clean, Or.inl ⟨rfl, L, hW.any _⟩⟩
          · go_wp2_with fail
            refine (unpin_law HC5.out (by omega) HE5.out.norm HTk.out.ok osec HFI.out.sector).mono ?_
            rintro e w6 ⟨rfl, col6, h6, k6, -⟩
            go_wp2_with fail
            go_meet
            case rel => obtain ⟨L, hW⟩ := unpin_wro t osec; exact ⟨col6, _, h6, k6, unpin_keeps HTk.out.ok _, (unpin_same HTk.out.ok HTk.out.clean _).clean, Or.inl ⟨rfl, L, hW.any _⟩⟩
          · go_wp2_with fail
            go_region_held3 (fun W => W.cell? ⟨O, 0, none⟩ = some (.int .i64 3) ∧ W.cell? ⟨O, 1, none⟩ = some (.int .i64 osec) ∧ W.cell? ⟨O, 2, none⟩ = some (.int .u8 ofill) ∧ W.cell? ⟨O, 3, none⟩ = some (.int .i64 oshort) ∧ W.cell? ⟨O, 4, none⟩ = some (.int .u64 oord) ∧ W.cell? ⟨D, 0, none⟩ = some (.int .i64 sz)) (first | exact HS.out _ _ (KStep.refl 2 HE5.out.norm).drew | exact HS.out _ _ ((KStep.below HE5.out.norm (below_undrew k6)).trans k7) | exact HS.out _ _ (KStep.below HE5.out.norm (below_undrew k6))) ((first | (go_at_call 15; refine (fill_any _ col' (by first | exact HE5.out.norm.grow (Nat.le_refl _) | exact HE5.out.norm) sz ofill (by have := HSZ.out; omega) HFI.out.fill).mono ?_; rintro e w6 ⟨⟨a6, cap6, rfl, hs6⟩, k6⟩) | (go_at_call 14; refine (put_law (HC5.out.below (below_undrew k6)) (by omega) (HE5.out.below (below_undrew k6)).norm HTk.out.ok HPD.out osec HFI.out.sector _ (rep sz ofill) oord (by rw [rep_len]; exact hs6.rd)).mono ?_; rintro e w7 ⟨rfl, col7, h7, k7, -⟩)))
            all_goals go_wp2_with fail
            all_goals go_meet
            all_goals
              obtain ⟨L, hW⟩ := put_wro HTk.out.ok HTk.out.clean osec (rep sz ofill) oord
              exact ⟨col7, _, h7, (KStep.below HE5.out.norm (below_undrew k6)).trans k7, put_keeps HTk.out.ok _ _ _ HFI.out.order, put_clean HTk.out.ok HTk.out.clean _ _ _ HFI.out.order, Or.inl ⟨rfl, L, hW.to (fun m e => ⟨trivial, e⟩)⟩⟩
          · go_wp2_with fail
            refine (upto_law HC5.out (by omega) HE5.out.norm HTk.out.ok HPD.out oord).mono ?_
            rintro e w6 ⟨rfl, col6, h6, k6, -⟩
            go_wp2_with fail
            go_meet
            case rel => exact ⟨col6, _, h6, k6, upTo_keeps HTk.out.ok _, (upTo_is HTk.out.ok HTk.out.clean _).1.clean, Or.inl ⟨rfl, _, (upTo_wro HTk.out.ok HTk.out.clean _).any _⟩⟩
          · go_wp2_with fail
            refine (sync_law HC5.out (by omega) HE5.out.norm HTk.out.ok HPD.out).mono ?_
            rintro e w6 ⟨rfl, col6, h6, k6, -⟩
            go_wp2_with fail
            go_meet
            case rel => exact ⟨col6, _, h6, k6, sync_keeps HTk.out.ok, (sync_same HTk.out.ok HTk.out.clean).1, Or.inr ⟨rfl, by unfold DS.sectors; rw [(sync_same HTk.out.ok HTk.out.clean).2.1]; rfl⟩⟩
          · go_wp2_with fail
            refine (drop_law HC5.out (by omega) HE5.out.norm HTk.out.ok).mono ?_
            rintro e w6 ⟨rfl, col6, h6, k6, -⟩
            go_wp2_with fail
            go_meet
            case rel => obtain ⟨L, hW⟩ := drop_wro t; exact ⟨col6, _, h6, k6, drop_keeps HTk.out.ok, (drop_same HTk.out.ok HTk.out.clean).clean, Or.inl ⟨rfl, L, hW.any _⟩⟩
          · go_wp2_with fail
            go_meet
            case rel => exact ⟨col', t, HC5.out, KStep.refl 2 HE5.out.norm, Keeps.refl HTk.out.ok, HTk.out.clean, Or.inl ⟨rfl, [], Wro.nil rfl⟩⟩
        case rest =>
          obtain ⟨col2, t2, h2, k2, q2, cl2, hor⟩ := hcut
          have HC6 := Lib.hid h2
          have HE6 := Lib.hid (HE5.out.kstep k2 (by omega))
          have HQ2 := Lib.hid q2
          have HT2 : Hid (HoldO t2 sz (k + 1)) := HTk.out.next q2 cl2
          have HF6 := Lib.hid (k2.rd (by omega) HS5.out)
          have HS6 := Lib.hid (HS.out _ _ k2)
          have hpd2 : t2.d.pending.length ≤ 1073690000 := by have := HT2.out.pend; omega
          have HPD2 := Lib.hid hpd2
          obtain ⟨w6, rfl⟩ : ∃ x, x = wc := ⟨wc, rfl⟩
          clear h2 k2 q2 cl2 c0 c1 c2 c3 c4 x0 HS5 HC5 HE5 HS hpd2
          rcases hor with ⟨rfl, L, hW⟩ | ⟨rfl, hs0⟩
          · have HRI := Lib.hid (hW.rises HTk.out.ok (kind := okind) (sec := osec) (fun m e => e))
            have hPE := hW.pend
            have HPE := Lib.hid hPE
            have HMEM := Lib.hid hW.mem
            clear hW hPE
            go_wp2_with fail
            refine (pend_law HC6.out HE6.out.norm HQ2.out.ok HPD2.out).mono ?_
            rintro e w7 ⟨⟨a7, cap7, rfl, hs7⟩, k7⟩
            have hn7 : t2.d.sectors.length = n0 + L.length := by rw [HPE.out, List.length_append, List.length_map, HN0.out]
            have hb7 : n0 + L.length ≤ 1073690000 := by rw [← hn7]; have := HPD2.out; simpa [DS.sectors] using this
            obtain ⟨b7, bc7, hrun, hdr⟩ := slice_from (k := n0) Try.underlying45 hi9 hz91 hs7 (by omega)
            have hdr' : t2.d.sectors.length - n0 = L.length := by omega
            have hxs : (t2.d.sectors.map (Value.int .i64)).drop (n0 * 1) = L.map (fun f => .int .i64 f.sector) := by
              rw [HPE.out, List.map_append, Nat.mul_one, List.drop_left' (by rw [List.length_map, HN0.out]), List.map_map]; rfl
            rw [hdr'] at hrun hdr
            rw [hxs] at hdr
            have HL7 := Lib.hid hdr
            have HC7 := Lib.hid (HC6.out.below k7)
            have HE7 := Lib.hid (HE6.out.below k7)
            have HF7 := Lib.hid (HF6.out.below k7)
            have HS7 : Hid (∀ W, Below w7.heap.size w7 W → W.cell? ⟨O, 0, none⟩ = some (.int .i64 okind) ∧ W.cell? ⟨O, 1, none⟩ = some (.int .i64 osec) ∧ W.cell? ⟨O, 2, none⟩ = some (.int .u8 ofill) ∧ W.cell? ⟨O, 3, none⟩ = some (.int .i64 oshort) ∧ W.cell? ⟨O, 4, none⟩ = some (.int .u64 oord) ∧ W.cell? ⟨D, 0, none⟩ = some (.int .i64 sz)) := fun W q => by
              have q6 := k7.trans (q.mono k7.size)
              obtain ⟨y0, y1, y2, y3, y4, y5⟩ := HS6.out
              have cc : ∀ {p v}, w6.cell? p = some v → W.cell? p = some v := fun {p v} h => (q6.cell (p := p) (cell_lt h)).trans h
              exact ⟨cc y0, cc y1, cc y2, cc y3, cc y4, cc y5⟩
            have HN4 : Hid (t.frames.length ≤ 4096 ∧ L.length ≤ 1073741824 ∧ t2.frames.length ≤ 4096) := ⟨by have := HTk.out.ok.len; have := HTk.out.ok.room1; omega, by omega, by have := HQ2.out.ok.len; have := HQ2.out.ok.room1; omega⟩
            generalize t2.d.sectors.length = n7 at *
            have hle : ¬ n7 < n0 := by omega
            have hle2 : ¬ (n7 : Int) < (n0 : Int) := by omega
            have hdN : decide (n7 < n0) = false := by simp; omega
            have hdI : decide ((n7 : Int) < (n0 : Int)) = false := by simp; omega
            clear hs7 k7 hn7 hb7 hdr hdr' hxs HC6 HE6 HF6 HS6
            go_wp2_with fail
            refine wp_region_held_drew (S := fun w' => w'.cell? ⟨O, 0, none⟩ = some (.int .i64 okind) ∧ w'.cell? ⟨O, 1, none⟩ = some (.int .i64 osec) ∧ w'.cell? ⟨O, 2, none⟩ = some (.int .u8 ofill) ∧ w'.cell? ⟨O, 3, none⟩ = some (.int .i64 oshort) ∧ w'.cell? ⟨O, 4, none⟩ = some (.int .u64 oord) ∧ w'.cell? ⟨D, 0, none⟩ = some (.int .i64 sz)) (by kernel_rfl) (HS7.out _ (show Below w7.heap.size w7 w7.drew from ⟨rfl, rfl, rfl, Nat.le_refl _, fun _ _ => rfl⟩)) (fun hHeld => ?_)
            refine wpAnyH_take (i := 0) (oi := _) (v := ?_) rfl (by kernel_rfl) (by kernel_rfl) (by kernel_rfl) (fun _ _ _ h => h) (Or.inl ⟨by rfl, ?_⟩) hHeld ?_
            rotate_left
            · intro w' hSw
              try dsimp only at hSw
              go_simp
              try with_reducible rfl
            try simp only [Act.put, List.getElem_toArray, List.getElem_cons_succ, List.getElem_cons_zero, List.setIfInBounds_toArray, List.set_cons_zero, List.set_cons_succ]
            refine wpAnyH_take (i := 1) (oi := _) (v := ?_) rfl (by kernel_rfl) (by kernel_rfl) (by kernel_rfl) (fun _ _ _ h => h) (Or.inl ⟨by rfl, ?_⟩) hHeld ?_
            rotate_left
            · intro w' hSw
              try dsimp only at hSw
              go_simp
              try with_reducible rfl
            try simp only [Act.put, List.getElem_toArray, List.getElem_cons_succ, List.getElem_cons_zero, List.setIfInBounds_toArray, List.set_cons_zero, List.set_cons_succ]
            refine wpAnyH_take (i := 2) (oi := _) (v := ?_) rfl (by kernel_rfl) (by kernel_rfl) (by kernel_rfl) (fun _ _ _ h => h) (Or.inl ⟨by rfl, ?_⟩) hHeld ?_
            rotate_left
            · intro w' hSw
              try dsimp only at hSw
              go_simp
              try with_reducible rfl
            try simp only [Act.put, List.getElem_toArray, List.getElem_cons_succ, List.getElem_cons_zero, List.setIfInBounds_toArray, List.set_cons_zero, List.set_cons_succ]
            refine wpAnyH_take (i := 3) (oi := _) (v := ?_) rfl (by kernel_rfl) (by kernel_rfl) (by kernel_rfl) (fun _ _ _ h => h) (Or.inl ⟨by rfl, ?_⟩) hHeld ?_
            rotate_left
            · intro w' hSw
              try dsimp only at hSw
              go_simp
              try with_reducible rfl
            try simp only [Act.put, List.getElem_toArray, List.getElem_cons_succ, List.getElem_cons_zero, List.setIfInBounds_toArray, List.set_cons_zero, List.set_cons_succ]
            refine wpAnyH_take (i := 4) (oi := _) (v := ?_) rfl (by kernel_rfl) (by kernel_rfl) (by kernel_rfl) (fun _ _ _ h => h) (Or.inl ⟨by rfl, ?_⟩) hHeld ?_
            rotate_left
            · intro w' hSw
              try dsimp only at hSw
              go_simp
              try with_reducible rfl
            try simp only [Act.put, List.getElem_toArray, List.getElem_cons_succ, List.getElem_cons_zero, List.setIfInBounds_toArray, List.set_cons_zero, List.set_cons_succ]
            refine wpAnyH_take (i := 5) (oi := _) (v := ?_) rfl (by kernel_rfl) (by kernel_rfl) (by kernel_rfl) (fun _ _ _ h => h) (Or.inl ⟨by rfl, ?_⟩) hHeld ?_
            rotate_left
            · intro w' hSw
              try dsimp only at hSw
              go_simp
              try with_reducible rfl
            try simp only [Act.put, List.getElem_toArray, List.getElem_cons_succ, List.getElem_cons_zero, List.setIfInBounds_toArray, List.set_cons_zero, List.set_cons_succ]
            refine wpAnyH_take (i := 6) (oi := _) (v := ?_) rfl (by kernel_rfl) (by kernel_rfl) (by kernel_rfl) (fun _ _ _ h => h) (Or.inl ⟨by rfl, ?_⟩) hHeld ?_
            rotate_left
            · intro w' hSw
              try dsimp only at hSw
              go_simp
              try with_reducible rfl
            try simp only [Act.put, List.getElem_toArray, List.getElem_cons_succ, List.getElem_cons_zero, List.setIfInBounds_toArray, List.set_cons_zero, List.set_cons_succ]
            refine wpAnyH_take (i := 7) (oi := _) (v := ?_) rfl (by kernel_rfl) (by kernel_rfl) (by kernel_rfl) (fun _ _ _ h => h) (Or.inl ⟨by rfl, ?_⟩) hHeld ?_
            rotate_left
            · intro w' hSw
              try dsimp only at hSw
              go_simp
              try with_reducible rfl
            try simp only [Act.put, List.getElem_toArray, List.getElem_cons_succ, List.getElem_cons_zero, List.setIfInBounds_toArray, List.set_cons_zero, List.set_cons_succ]
            refine wpAnyH_take (i := 8) (oi := _) (v := ?_) rfl (by kernel_rfl) (by kernel_rfl) (by kernel_rfl) (fun _ _ _ h => h) (Or.inl ⟨by rfl, ?_⟩) hHeld ?_
            rotate_left
            · intro w' hSw
              try dsimp only at hSw
              go_simp
              try with_reducible rfl
            try simp only [Act.put, List.getElem_toArray, List.getElem_cons_succ, List.getElem_cons_zero, List.setIfInBounds_toArray, List.set_cons_zero, List.set_cons_succ]
            refine wpAnyH_take (i := 9) (oi := _) (v := ?_) rfl (by kernel_rfl) (by kernel_rfl) (by kernel_rfl) (fun _ _ _ h => h) (Or.inl ⟨by rfl, ?_⟩) hHeld ?_
            rotate_left
            · intro w' hSw
              try dsimp only at hSw
              go_simp
              try with_reducible rfl
            try simp only [Act.put, List.getElem_toArray, List.getElem_cons_succ, List.getElem_cons_zero, List.setIfInBounds_toArray, List.set_cons_zero, List.set_cons_succ]
            refine wpAnyH_take (i := 11) (oi := _) (v := ?_) rfl (by kernel_rfl) (by kernel_rfl) (by kernel_rfl) (fun _ _ _ h => h) (Or.inl ⟨by rfl, ?_⟩) hHeld ?_
            rotate_left
            · intro w' hSw
              try dsimp only at hSw
              go_simp
              try with_reducible rfl
            try simp only [Act.put, List.getElem_toArray, List.getElem_cons_succ, List.getElem_cons_zero, List.setIfInBounds_toArray, List.set_cons_zero, List.set_cons_succ]
            refine wpAnyH_ready (rs := [10]) (by kernel_rfl) (by simp) ?_
            refine AllReadyH.cons (o := _) rfl (fun K hK => ?_) AllReadyH.nil
            go_simp
            refine (frames_law (HC7.out.below (show Below w7.heap.size w7 w7.drew from ⟨rfl, rfl, rfl, Nat.le_refl _, fun _ _ => rfl⟩)) HE7.out.norm HQ2.out.ok).mono ?_
            rintro e w8 ⟨⟨a8, cap8, rfl, hs8⟩, k8⟩
            try dsimp only
            refine hK.out _ _ (HS7.out _ (below_undrew k8)) (fun hHeld2 => ?_)
            clear hK K hHeld
            have hHeld := hHeld2
            clear hHeld2
            try simp only [Act.put, List.getElem_toArray, List.getElem_cons_succ, List.getElem_cons_zero, List.setIfInBounds_toArray, List.set_cons_zero, List.set_cons_succ]
            refine wpAnyH_ready (rs := [12]) (by kernel_rfl) (by simp) ?_
            refine AllReadyH.cons (o := _) rfl (fun K hK => ?_) AllReadyH.nil
            go_simp
            refine (rising_any w8 _ _ _ _ _ _ _ _ _ t.frames L t2.frames okind osec ofill oshort oord (HF7.out.below (below_undrew k8)) (HL7.out.below (below_undrew k8)) hs8.rd HN4.out.1 HN4.out.2.1 HN4.out.2.2 HRI.out).mono ?_
            rintro e w9 ⟨rfl, k9⟩
            try dsimp only
            refine hK.out _ _ (HS7.out _ ((below_undrew k8).trans (k9.mono (below_undrew k8).size))) (fun hHeld2 => ?_)
            clear hK K hHeld
            have hHeld := hHeld2
            clear hHeld2
            try simp only [Act.put, List.getElem_toArray, List.getElem_cons_succ, List.getElem_cons_zero, List.setIfInBounds_toArray, List.set_cons_zero, List.set_cons_succ]
            refine wpAnyH_take (i := 13) (oi := _) (v := ?_) rfl (by kernel_rfl) (by kernel_rfl) (by kernel_rfl) (fun _ _ _ h => h) (Or.inl ⟨by rfl, ?_⟩) hHeld ?_
            rotate_left
            · intro w' hSw
              try dsimp only at hSw
              go_simp
              try with_reducible rfl
            try simp only [Act.put, List.getElem_toArray, List.getElem_cons_succ, List.getElem_cons_zero, List.setIfInBounds_toArray, List.set_cons_zero, List.set_cons_succ]
            refine wpAnyH_take (i := 14) (oi := _) (v := ?_) rfl (by kernel_rfl) (by kernel_rfl) (by kernel_rfl) (fun _ _ _ h => h) (Or.inl ⟨by rfl, ?_⟩) hHeld ?_
            rotate_left
            · intro w' hSw
              try dsimp only at hSw
              go_simp
              try with_reducible rfl
            try simp only [Act.put, List.getElem_toArray, List.getElem_cons_succ, List.getElem_cons_zero, List.setIfInBounds_toArray, List.set_cons_zero, List.set_cons_succ]
            refine wpAnyH_done (by kernel_rfl) ?_ _
            go_wp2_with fail
            go_roundw
            case rel => exact ⟨k + 1, col2, t2, by omega, by go_num, HC7.out.below ((below_undrew k8).trans (k9.mono (below_undrew k8).size)), HE7.out.below ((below_undrew k8).trans (k9.mono (below_undrew k8).size)), HT2.out⟩
            case measure => simp [intOf]; omega
          · go_wp2_with fail
            refine (pend_law HC6.out HE6.out.norm HQ2.out.ok HPD2.out).mono ?_
            rintro e w7 ⟨⟨a7, cap7, rfl, -⟩, k7⟩
            rw [hs0]
            have HC7 := Lib.hid (HC6.out.below k7)
            have HE7 := Lib.hid (HE6.out.below k7)
            clear k7 hs0 HC6 HE6
            go_wp2_with fail
            go_roundw
            case rel => exact ⟨k + 1, col2, t2, by omega, by go_num, HC7.out, HE7.out, HT2.out⟩
            case measure => simp [intOf]; omega
      · obtain rfl : k = l.length := by omega
        go_wp2_with fail
        go_ret
        rw [HDe.out]
        exact ⟨rfl, HB1.out.trans (hEk.bel.mono (by omega))⟩
  · go_wp2_with fail
    go_ret
    rw [HDe.out]
    exact ⟨rfl, HB1.out.trans (k2.mono (by omega))⟩
end Go.Proofs.Ytjjgihaikcnjgaa
