/-
  The walk of DiskFlushed.
-/
import Derived.Test.YtlkebppmdbgdmaaFlushedPlain
import Derived.Laws.Cover3
namespace Go.Proofs.Ytlkebppmdbgdmaa
open Go.RowKit
set_option linter.unusedSimpArgs false
set_option linter.unusedVariables false

theorem info30 : (Try.prog.info? 30).map (fun i => (i.zero, i.size, i.bytes)) = some (some (.slice none 0 0), 1, 24) := by kernel_rfl
def nils (n : Nat) : List Value := List.replicate n (.slice none 0 0)
theorem madeCells_nils (n : Nat) : madeCells #[Value.slice none 0 0] n = (nils n).toArray := by
  apply Array.ext
  · simp [madeCells, nils]
  · intro i h1 h2
    have e : i % 1 = 0 := by omega
    simp [madeCells, nils, e]
def rowsTo (n k : Nat) (z : List Int) : List (Option (List Int)) := (List.range n).map fun i => if i < k then some z else none
theorem rowsTo_len (n k : Nat) (z : List Int) : (rowsTo n k z).length = n := by simp [rowsTo]
theorem rowsTo_succ (n k : Nat) (z : List Int) (h : k < n) : (rowsTo n k z).set k (some z) = rowsTo n (k + 1) z := by
  apply List.ext_getElem
  · simp [rowsTo]
  · intro i h1 h2
    simp only [rowsTo, List.getElem_set, List.getElem_map, List.getElem_range]
    by_cases e : k = i
    · subst e; simp
    · rw [if_neg e]
      have : i < k ↔ i < k + 1 := by omega
      simp only [this]
theorem rowsTo_full (n : Nat) (z : List Int) : rowsTo n n z = List.replicate n (some z) := by
  apply List.ext_getElem
  · simp [rowsTo]
  · intro i h1 h2
    simp only [rowsTo_len] at h1
    simp [rowsTo, h1]
theorem rows_nils (w : World) (col : Nat → Nat) (c n : Nat) (z : List Int) (hm : n ≤ maxLen) (hc : col w.heap.size = c) : RowsAt (w.alloc (.cells (nils n).toArray 30)) col c (.slice (some ⟨w.heap.size, 0, none⟩) n n) (rowsTo n 0 z) := by
  refine ⟨nils n, ⟨by simp [nils, rowsTo_len], Or.inr ⟨w.heap.size, 0, n, _, by rw [rowsTo_len], hc, block_new _ _, by rw [rowsTo_len]; exact Nat.le_refl _, hm, by simp [nils], by simp [nils, rowsTo_len]⟩⟩, fun i hi => ?_⟩
  rw [rowsTo_len] at hi
  exact ⟨.slice none 0 0, by simp [nils, hi], by simp [rowsTo, RowC]⟩
def colQ (col : Nat → Nat) (n m z c : Nat) (k : Nat) : Nat := if k < n then col k else if z ≤ k then 0 else if k = m then c else 0
theorem rows_end {w w' : World} {o : Obj} {col : Nat → Nat} {c : Nat} (hc1 : 1 < c) {v : Value} {qs : List Value} {L : List (Option (List Int))} (hn : Norm w col) (hq : ∀ i (h : i < L.length), ∃ u, qs[i]? = some u ∧ RowC w col u L[i])
    (hs : SlAt w' (fun k => False ∨ k = (w.alloc o).heap.size) 30 1 v L.length qs) (hc : Chg (fun _ => False) (w.alloc o) w') :
    ∃ col', RowsAt w' col' c v L ∧ Step c col col' w w' := by
  have hz := hc.size
  rw [World.size_alloc] at hz hs
  have hext : Ext w.heap.size col (colQ col w.heap.size (w.heap.size + 1) w'.heap.size c) := fun k hk => by simp only [colQ]; rw [if_pos hk]
  have hch : Chg (fun _ => False) w w' := ((Chg.refl _ w).alloc _).trans hc
  have st : Step c col (colQ col w.heap.size (w.heap.size + 1) w'.heap.size c) w w' := ⟨hext, hch.mono (fun k _ e => e.elim), fun k hk => by simp only [colQ]; rw [if_neg (by omega), if_pos hk]⟩
  refine ⟨_, ⟨qs, hs.mono (fun k hk e => ?_), fun i hi => ?_⟩, st⟩
  · rcases e with e | e
    · exact e.elim
    · subst e; simp only [colQ]; rw [if_neg (by omega), if_neg (by omega)]; simp
  · obtain ⟨u, e, h⟩ := hq i hi
    exact ⟨u, e, h.step st hc1⟩
theorem rows_one {w : World} {col : Nat → Nat} {c : Nat} {v : Value} {L : List (Option (List Int))} {qs : List Value} (h1 : SlAt w (fun k => col k = c) 30 1 v L.length qs) (h2 : ∀ i (h : i < L.length), ∃ u, qs[i]? = some u ∧ RowC w col u L[i]) : ∀ u ∈ qs, u.oneCell' = true := by
  intro u hu
  obtain ⟨i, hi, rfl⟩ := List.mem_iff_getElem.1 hu
  have := h1.1
  obtain ⟨x, e, h⟩ := h2 i (by omega)
  rw [List.getElem?_eq_getElem hi] at e
  injection e with e
  rw [e]; exact h.one

theorem RowsAt.addr {w : World} {col : Nat → Nat} {c n cap : Nat} {a : Option Addr} {L : List (Option (List Int))} (h : RowsAt w col c (.slice a n cap) L) (hn : n = L.length) (h0 : 0 < n) : ∃ g off, a = some ⟨g, off, none⟩ := by
  subst hn
  obtain ⟨qs, h1, _⟩ := h
  obtain ⟨g, off, e, _⟩ := h1.rd.get h0
  exact ⟨g, off, e⟩

set_option maxRecDepth 100000 in
set_option maxHeartbeats 8000000 in
theorem flushed_any (W : World) (size count : Int) (v2 : Value) (l : List OpD) (h2 : OpsAt W (fun k => k < W.heap.size) v2 l ∧ l.length ≤ 1048576) (v3 : Value) (keep : List Int) (h3 : IntsAt W (fun k => k < W.heap.size) v3 keep) :
    Calls Try.prog 3 #[.int .i64 size, .int .i64 count, v2, v3] W fun e w' => e = .returned (.bool true) ∧ Below W.heap.size W w' := by
  obtain ⟨a2, cap2, rfl, hmax2⟩ := h2.1.shape
  obtain ⟨a3, cap3, rfl, hmax3⟩ := RdAt.shape h3
  obtain ⟨h2, hl2⟩ := h2
  obtain ⟨i0, hi, hz0, hz1, hz2⟩ := info_parts info30
  obtain ⟨j0, hj, jz0, jz1, jz2⟩ := info_parts info5
  unfold maxLen at hmax2 hmax3
  cases hf : fitsD size count with
  | false =>
    have Hf := Lib.hid hf; clear hf
    go_enter Try.func3, Try.ntmps3
    go_wp2_with fail
    refine (lives_any _).mono ?_
    rintro e w1 ⟨rfl, k1⟩
    go_wp2_with fail
    refine (new_no _ _ _ Hf.out).mono ?_
    rintro e w2 ⟨rfl, rfl⟩
    go_wp2
    go_ret
    exact ⟨rfl, k1⟩
  | true =>
    have ok0 := new_Ok hf
    obtain ⟨f0, f1, f2, f3⟩ := fits_bounds hf
    have hmk : ∀ u : World, (Instr.makeSlice 29 (.int .i64 count) (.int .i64 count)).run Try.prog u =
        .ok (.slice (some ⟨u.heap.size, 0, none⟩) count.toNat count.toNat) (u.alloc (.cells (nils count.toNat).toArray 30)) := fun u => by
      have h := run_make (P := Try.prog) u 29 30 i0 (.slice none 0 0) Try.underlying29 hi hz0 .i64 .i64 count count (by omega) (Int.le_refl _) (by rw [hz2]; omega) (by omega)
      rw [hz1, Nat.mul_one] at h
      rw [← madeCells_nils]
      exact h
    have hmk2 : ∀ u : World, (Instr.makeSlice 30 (.int .i64 size) (.int .i64 size)).run Try.prog u =
        .ok (.slice (some ⟨u.heap.size, 0, none⟩) size.toNat size.toNat) (u.alloc (.cells (bcells (zeros size.toNat)).toArray 5)) := fun u => by
      have h := run_make (P := Try.prog) u 30 5 j0 (.int .u8 0) Try.underlying30 hj jz0 .i64 .i64 size size (by omega) (Int.le_refl _) (by rw [jz2]; omega) (by omega)
      rw [jz1, Nat.mul_one] at h
      rw [← madeCells_zeros]
      exact h
    have Hf := Lib.hid hf; clear hf
    go_enter Try.func3, Try.ntmps3
    go_wp2_with fail
    refine (lives_any _).mono ?_
    rintro e w1 ⟨rfl, k1⟩
    have E1 := (Env.refl W).below k1
    go_wp2_with fail
    refine (new_ok _ _ _ Hf.out (fun _ => 0) 20).mono ?_
    rintro e w2 ⟨⟨b, col, rfl, hb, h5, x5, m5⟩, k5⟩
    have E2 : Env W col w2 := E1.step (c := 20) ⟨x5, Chg.of_below k5, m5⟩ (by omega)
    have stp := paint E2.norm (.cells (nils count.toNat).toArray 30) 5
    have E3 := E2.step stp (by omega)
    have d3 := stp.other (by omega) (by omega) h5
    have r3 := rows_nils w2 (colP col w2.heap.size 5) 5 count.toNat (zeros size.toNat) (by unfold maxLen; omega) (by simp [colP])
    have fl0 := Lib.hid (flushy_new Hf.out)
    generalize colP col w2.heap.size 5 = col3 at *
    clear stp h5 x5 m5 k5 E2
    go_wp2_with fail
    go_loopw [12] (fun i wr => ∃ (k : Nat), k ≤ count.toNat ∧ i = .int .i64 k ∧ DiskAt wr 69 col3 20 b (DS.new size count) ∧ Env W col3 wr ∧ RowsAt wr col3 5 (.slice (some ⟨w2.heap.size, 0, none⟩) count.toNat count.toNat) (rowsTo count.toNat k (zeros size.toNat))) (fun i _ => count.toNat - (intOf i).toNat)
    case atStart => exact ⟨0, by omega, rfl, d3, E3, r3⟩
    case round =>
      obtain ⟨k, hk, rfl, hd, E, hr⟩ := hrel
      by_cases hlt : k < count.toNat
      · have j1 : (k : Int) < count := by omega
        have j2 : (0 : Int) ≤ (k : Int) := by omega
        have j3 : (k : Int) < (count.toNat : Int) := by omega
        have kb : Below wr.heap.size wr (wr.alloc (.cells (bcells (zeros size.toNat)).toArray 5)) := (Below.refl _ _).alloc (Nat.le_refl _) _
        have E4 := E.below kb
        have hd4 := hd.below kb
        have hr4 := hr.below E.norm kb
        have hzl : (zeros size.toNat).length = size.toNat := by simp [zeros]
        have hrow : RowC (wr.alloc (.cells (bcells (zeros size.toNat)).toArray 5)) col3 (.slice (some ⟨wr.heap.size, 0, none⟩) size.toNat size.toNat) (some (zeros size.toNat)) := by
          refine ⟨wr.heap.size, 0, size.toNat, by rw [hzl], ?_⟩
          rw [hzl]
          exact (rd_new wr (bcells (zeros size.toNat)) 5 1 size.toNat (by simp [hzl]) (by unfold maxLen; omega)).mono (fun i _ e => by subst e; exact E.norm _ (Nat.le_refl _))
        obtain ⟨f1', ⟨x1, cx1⟩, hr5, st5⟩ := hr4.poke (by rw [rowsTo_len]) E4.norm (by omega) (k := k) (by rw [rowsTo_len]; exact hlt) hrow
        rw [rowsTo_succ _ _ _ hlt] at hr5
        have E5 := E4.step st5 (by omega)
        have hd5 := st5.other (by omega) (by omega) hd4
        clear hr4 st5 hd4 E4 hrow hzl
        rw [Nat.zero_add] at f1' cx1 hr5 E5 hd5
        go_wp2_with fail
        go_roundw
        case rel => exact ⟨k + 1, by omega, by go_num, hd5, E5, hr5⟩
        case measure => simp [intOf]; omega
      · obtain rfl : k = count.toNat := by omega
        have j1 : ¬ ((count.toNat : Int) < count) := by omega
        rw [rowsTo_full] at hr
        obtain ⟨qs, hsl, hrc⟩ := hr
        have hone := rows_one hsl hrc
        have hLl : (List.replicate count.toNat (some (zeros size.toNat))).length = count.toNat := by simp
        rw [hLl] at hsl
        go_wp2_with (at_builtin; go_must (refine wpList_append_sl rfl _ _ 29 rfl 30 i0 (.slice none 0 0) 1 24 Try.underlying29 hi hz0 hz1 hz2 rfl (fun _ => False) _ 0 [] rfl (SlAt.nil _ _ _ _ _) (fun k => col3 k = 5) _ count.toNat qs rfl ?_ hone ?_ ?_ ?_); exact hsl.rd.below ((Below.refl _ _).alloc (Nat.le_refl _) _); (unfold maxLen; omega); omega; rintro v13 w6 hs6 hc6)
        rw [Nat.zero_add, List.nil_append, ← hLl] at hs6
        obtain ⟨col6, hnow, st6⟩ := rows_end (c := 8) (by omega) E.norm hrc hs6 hc6
        rw [← hLl] at hsl
        have hlast := RowsAt.step (d := 5) st6 (by omega) (by omega) ⟨qs, hsl, hrc⟩
        have hd6 := st6.other (by omega) (by omega) hd
        have E6 := E.step st6 (by omega)
        obtain ⟨a13, cap13, rfl⟩ := hnow.shape
        rw [hLl] at hnow hlast
        obtain ⟨g13, o13, rfl⟩ := hnow.addr hLl.symm (by omega)
        have al0 : Hid ((DS.new size count).alive = true ∧ (DS.new size count).stops = false) := ⟨rfl, rfl⟩
        have z0 : Hid ((DS.new size count).size = size ∧ (DS.new size count).count = count) := ⟨rfl, rfl⟩
        have p0 : (DS.new size count).pending.length ≤ 0 := Nat.le_refl _
        have hnl : (List.replicate count.toNat (zeros size.toNat)).map some = List.replicate count.toNat (some (zeros size.toNat)) := by simp
        rw [← hnl] at hnow
        clear hs6 hc6 st6 hd E hsl hrc hone hmk hmk2 hnl
        rw [hLl]
        clear hLl
        generalize DS.new size count = S0 at *
        generalize List.replicate count.toNat (some (zeros size.toNat)) = last0 at *
        generalize List.replicate count.toNat (zeros size.toNat) = now0 at *
        go_wp2_with fail
        go_loopw [11, 14] (fun vl i wr => ∃ (k : Nat) (col : Nat → Nat) (s : DS) (last : List (Option (List Int))) (now : List (List Int)) (al : Option Addr) (cl : Nat), k ≤ l.length ∧ i = .int .i64 k ∧ vl = .slice al count.toNat cl ∧ DiskAt wr 69 col 20 b s ∧ s.Ok ∧ Env W col wr ∧ RowsAt wr col 5 (.slice al count.toNat cl) last ∧ RowsAt wr col 8 (.slice (some ⟨g13, o13, none⟩) count.toNat cap13) (now.map some) ∧ Hid (s.size = size ∧ s.count = count) ∧ Hid (s.alive = true ∧ s.stops = false) ∧ s.pending.length ≤ k ∧ Hid (Flushy s last now)) (fun _ i _ => l.length - (intOf i).toNat)
        case atStart => exact ⟨0, col6, S0, last0, now0, _, _, by omega, rfl, rfl, hd6, ok0, E6, hlast, hnow, z0, al0, p0, fl0⟩
        case round =>
          obtain ⟨k, col', s, last, now, al, cl, hk, rfl, rfl, hd, ok, E, hlr, hnr, hsz, hal, hp, hfl⟩ := hrel
          by_cases hlt : k < l.length
          · obtain ⟨g, off, rfl, hg, _, hcs⟩ := h2.get (by omega)
            have hc := hcs k hlt
            obtain ⟨hby0, hby1⟩ := hc.byte
            obtain ⟨c0, c1, c2⟩ := E.op hg hc
            generalize l[k] = o at *
            clear hcs
            have i0' : (0 : Int) ≤ (k : Int) := by omega
            have i1' : (k : Int) < (l.length : Int) := by omega
            by_cases hk1 : o.kind = 1
            · have q1 : (o.kind == 1) = true := by simp [hk1]
              have q3 : (o.kind == 3) = false := by simp [hk1]
              clear hk1
              go_wp2_with fail
              refine (filled_law _ _ E.norm size o.byte (by omega) ⟨hby0, hby1⟩).mono ?_
              rintro e w6 ⟨⟨a6, cap6, rfl, hs6⟩, hb6⟩
              have E6 : Env W col' w6 := E.below hb6
              have hd6 := hd.below hb6
              have hlr6 := hlr.below E.norm hb6
              have hnr6 := hnr.below E.norm hb6
              have c61 := (E6.op hg hc).2.1
              clear hd hlr hnr
              go_wp2_with fail
              refine (write_law _ _ _ _ _ _ _ _ hd6 (by omega) ok E6.norm hs6.rd (by omega)).mono ?_
              rintro e w7 ⟨rfl, col7, hd7, st7⟩
              have E7 := E6.step st7 (by omega)
              have c71 := (E7.op hg hc).2.1
              have hlr7 := hlr6.step st7 (by omega) (by omega)
              have hnr7 := hnr6.step st7 (by omega) (by omega)
              have r7 := st7.rd (by omega) hs6.rd
              have p7 := wrote_pend s o.n (filled size o.byte)
              have ok7 := wrote_Ok ok o.n (filled size o.byte)
              clear st7 hd6 hlr6 hnr6 hs6
              unfold DS.wcode
              cases hfit : s.fit o.n (filled size o.byte) with
              | false =>
                rw [writeBad hfit] at hd7
                have Hfit := Lib.hid hfit; clear hfit
                go_wp2_with fail
                go_roundw
                case rel => exact ⟨k + 1, col7, s, last, now, _, _, by omega, by go_num, rfl, hd7, ok, E7, hlr7, hnr7, hsz, hal, by omega, hfl⟩
                case measure => simp [intOf]; omega
              | true =>
                obtain ⟨t0, t1, t2⟩ := fit_iff.1 hfit
                have fw := flushy_write (n := o.n.toNat) (l := filled size o.byte) hfl.out hal.out.1 (by rw [show ((o.n.toNat : Nat) : Int) = o.n by omega]; exact hfit)
                rw [show ((o.n.toNat : Nat) : Int) = o.n by omega] at fw
                have Fw := Lib.hid fw
                have ea : (s.wrote o.n (filled size o.byte)).alive = true ∧ (s.wrote o.n (filled size o.byte)).stops = false := by
                  have := wrote_stops s o.n (filled size o.byte)
                  rw [hal.out.2] at this
                  exact ⟨by simp [DS.alive, this], this⟩
                have Ea : Hid ((s.wrote o.n (filled size o.byte)).alive = true ∧ (s.wrote o.n (filled size o.byte)).stops = false) := ea
                have sz7 : Hid ((s.wrote o.n (filled size o.byte)).size = size ∧ (s.wrote o.n (filled size o.byte)).count = count) := ⟨(wrote_size _ _ _).trans hsz.out.1, (wrote_count _ _ _).trans hsz.out.2⟩
                have hnl : count.toNat = (now.map some).length := by rw [List.length_map, hfl.out.nlen, hsz.out.2]
                have hll : count.toNat = last.length := by rw [hfl.out.llen, hsz.out.2]
                obtain ⟨ga, oa, rfl, _, _, hjunk⟩ := r7.get (by have := ok.size0; omega)
                have hnk : o.n.toNat < count.toNat := by rw [← hsz.out.2]; omega
                have hrow : RowC w7 col7 (.slice (some ⟨ga, oa, none⟩) (filled size o.byte).length cap6) (some (filled size o.byte)) := ⟨ga, oa, cap6, rfl, r7⟩
                obtain ⟨fz1, ⟨x1, cx1⟩, hn8, st8⟩ := hnr7.poke hnl E7.norm (by omega) (k := o.n.toNat) (by omega) hrow
                rw [← List.map_set] at hn8
                have E8 := E7.step st8 (by omega)
                have hd8 := st8.other (by omega) (by omega) hd7
                have hlr8 := hlr7.step st8 (by omega) (by omega)
                have c81 := (E8.op hg hc).2.1
                obtain ⟨gl, ol, rfl⟩ := hlr8.addr hll (by omega)
                obtain ⟨fz2, ⟨x2, cx2⟩, hl9, st9⟩ := hlr8.poke hll E8.norm (by omega) (k := o.n.toNat) (by omega) (u := .slice none 0 0) (o := none) rfl
                have E9 := E8.step st9 (by omega)
                have hd9 := st9.other (by omega) (by omega) hd8
                have hn9 := hn8.step st9 (by omega) (by omega)
                have t1' : o.n < (count.toNat : Int) := by rw [hsz.out.2] at t1; omega
                clear hjunk hrow fw ea hnl hll hfit st8 st9 hd8 hlr8 hn8 hd7 hlr7 hnr7 t1 t2 hnk
                generalize s.wrote o.n (filled size o.byte) = s7 at *
                go_wp2_with fail
                go_roundw
                case rel => exact ⟨k + 1, col7, s7, last.set o.n.toNat none, now.set o.n.toNat (filled size o.byte), _, _, by omega, by go_num, rfl, hd9, ok7, E9, hl9, hn9, sz7, Ea, by omega, Fw⟩
                case measure => simp [intOf]; omega
            · have q1 : (o.kind == 1) = false := by simp [hk1]
              by_cases hk3 : o.kind = 3
              · have q3 : (o.kind == 3) = true := by simp [hk3]
                clear hk1 hk3
                have fw := flushy_flush hfl.out ok hal.out.1
                have Fw := Lib.hid fw
                have fp : s.flush.pending.length ≤ s.pending.length := flush_pend s
                have fa : Hid (s.flush.alive = true ∧ s.flush.stops = false) := by
                  have := flush_stops s
                  rw [hal.out.2] at this
                  exact ⟨by simp [DS.alive, this], this⟩
                have sz7 : Hid (s.flush.size = size ∧ s.flush.count = count) := ⟨(flush_size _).trans hsz.out.1, (flush_count _).trans hsz.out.2⟩
                have ok7 := flush_Ok ok
                have fl := flush_law wr col' 20 b s hd (by omega) ok E.norm (by omega)
                have hnl : (now.map some).length = count.toNat := by rw [List.length_map, hfl.out.nlen, hsz.out.2]
                clear fw
                generalize s.flush = s7 at *
                go_wp2_with fail
                refine fl.mono ?_
                rintro e w7 ⟨rfl, col7, hd7, st7⟩
                clear fl
                have E7 := E.step st7 (by omega)
                have hnr7 := hnr.step st7 (by omega) (by omega)
                have hlr7 := hlr.step st7 (by omega) (by omega)
                obtain ⟨qs7, hsl7, hrc7⟩ := hnr7
                have hone7 := rows_one hsl7 hrc7
                rw [hnl] at hsl7
                go_wp2_with (at_builtin; go_must (refine wpList_append_sl rfl _ _ 29 rfl 30 i0 (.slice none 0 0) 1 24 Try.underlying29 hi hz0 hz1 hz2 rfl (fun _ => False) _ 0 [] rfl (SlAt.nil _ _ _ _ _) (fun k => col7 k = 8) _ count.toNat qs7 rfl ?_ hone7 ?_ ?_ ?_); exact hsl7.rd.below ((Below.refl _ _).alloc (Nat.le_refl _) _); (unfold maxLen; omega); omega; rintro v11 w8 hs8 hc8)
                rw [Nat.zero_add, List.nil_append, ← hnl] at hs8
                obtain ⟨col8, hlast8, st8⟩ := rows_end (c := 5) (by omega) E7.norm hrc7 hs8 hc8
                rw [← hnl] at hsl7
                have hnow8 := RowsAt.step (d := 8) st8 (by omega) (by omega) ⟨qs7, hsl7, hrc7⟩
                have hd8 := st8.other (by omega) (by omega) hd7
                have E8 := E7.step st8 (by omega)
                obtain ⟨a11, cap11, rfl⟩ := hlast8.shape
                rw [hnl] at hnow8 hlast8
                rw [hnl]
                clear hs8 hc8 st8 hd7 E7 hsl7 hrc7 hone7 hnl
                go_wp2_with fail
                go_roundw
                case rel => exact ⟨k + 1, col8, s7, now.map some, now, _, _, by omega, by go_num, rfl, hd8, ok7, E8, hlast8, hnow8, sz7, fa, by omega, Fw⟩
                case measure => simp [intOf]; omega
              · have q3 : (o.kind == 3) = false := by simp [hk3]
                clear hk1 hk3
                go_wp2_with fail
                go_roundw
                case rel => exact ⟨k + 1, col', s, last, now, _, _, by omega, by go_num, rfl, hd, ok, E, hlr, hnr, hsz, hal, by omega, hfl⟩
                case measure => simp [intOf]; omega
          · obtain rfl : k = l.length := by omega
            go_wp2_with fail
            refine (crash_law _ _ _ _ _ _ keep hd (by omega) ok E.norm (by omega) (E.rd h3)).mono ?_
            rintro e w8 h8
            clear hnr
            rcases h8 with ⟨hkd, rfl, col8, d8, st8⟩ | ⟨_, rfl, col8, d8, st8⟩
            · have E8 := E.step st8 (by omega)
              have lr8 := hlr.step st8 (by omega) (by omega)
              clear st8 hd E hlr
              go_wp2_with fail
              refine (pending_law _ _ _ _ _ d8 (crash_Ok ok hkd) E8.norm (by simp [DS.crash])).mono ?_
              rintro e w9 ⟨⟨a31, cap31, rfl, hr1⟩, kx1⟩
              have E9 := E8.below kx1
              have d9 := d8.below kx1
              have lr9 := lr8.below E8.norm kx1
              clear hr1
              have hse : ((s.crash keep).sectors.length : Int) = 0 := by simp [DS.sectors, DS.crash]
              have hse0 : (s.crash keep).sectors = [] := rfl
              rw [hse0]
              clear hse hse0
              have zS : Hid ((s.crash keep).size = size ∧ (s.crash keep).count = count) := hsz
              have okS := crash_Ok ok hkd
              have kS : Hid (Kept (s.crash keep) last) := kept_crash hfl.out ok hkd
              have dS := d9
              have ES := E9
              have lS := lr9
              clear hkd hfl hal
              generalize s.crash keep = S at *
              go_wp2_with fail
              go_loopw [16] (fun i wr => ∃ (n : Nat) (s' : DS), (n : Int) ≤ count ∧ i = .int .i64 n ∧ DiskAt wr 69 col8 20 b s' ∧ s'.Ok ∧ Hid (s'.size = size ∧ s'.count = count) ∧ Hid (Kept s' last) ∧ Env W col8 wr ∧ RowsAt wr col8 5 (.slice al count.toNat cl) last) (fun i _ => count.toNat - (intOf i).toNat)
              case atStart => exact ⟨0, S, by omega, rfl, dS, okS, zS, kS, ES, lS⟩
              case round =>
                obtain ⟨n, s', hn, rfl, hd, ok', hsz', hkp, E, hlr⟩ := hrel
                by_cases hlt : (n : Int) < count
                · have rl := read_law wr col8 20 b s' n hd (by omega) ok' E.norm (by rw [hkp.out.pend]; simp) (by omega) (by rw [hsz'.out.2]; exact hlt)
                  rw [sector_quiet hkp.out.pend] at rl
                  have hbl := base_len ok' (n := n) (by omega) (by rw [hsz'.out.2]; exact hlt)
                  have hne : (((s'.base n).length : Int) != size) = false := by rw [hbl, hsz'.out.1]; simp; omega
                  have Hll := Lib.hid (show last.length = count.toNat by rw [hkp.out.llen, hsz'.out.2])
                  have hnl : n < last.length := by have := Hll.out; omega
                  have hlast := hkp.out.last n hnl
                  have n0 : (0 : Int) ≤ (n : Int) := by omega
                  have n1 : (n : Int) < (count.toNat : Int) := by omega
                  clear hbl
                  generalize s'.base n = L at *
                  go_wp2_with fail
                  refine rl.mono ?_
                  clear rl
                  rintro e w18 ⟨⟨a50, cap50, rfl, hr50⟩, hd18, st18⟩
                  have E18 := E.step st18 (by omega)
                  have hlr18 := hlr.step st18 (by omega) (by omega)
                  clear hd hlr E st18
                  obtain ⟨gl, ol, rfl⟩ := hlr18.addr Hll.out.symm (by omega)
                  obtain ⟨qs, hsl, hrc⟩ := hlr18
                  obtain ⟨u, hu, hru⟩ := hrc n hnl
                  rw [Hll.out] at hsl
                  have cu : w18.cell? ⟨gl, ol + n, none⟩ = some u := by
                    obtain ⟨g', o', e, _, _, hc⟩ := hsl.rd.get (by omega)
                    injection e with e
                    injection e with e1 e2
                    subst e1 e2
                    exact hc _ _ hu
                  rw [← Hll.out] at hsl
                  have hlr18 : RowsAt w18 col8 5 (.slice (some ⟨gl, ol, none⟩) count.toNat cl) last := ⟨qs, by rw [Hll.out] at hsl ⊢; exact hsl, hrc⟩
                  cases hl : last[n] with
                  | none =>
                    rw [hl] at hru
                    obtain rfl : u = .slice none 0 0 := hru
                    clear hlast hl hsl hrc hu
                    go_wp2_with fail
                    go_roundw
                    case rel => exact ⟨n + 1, s'.read, by omega, by go_num, hd18, read_Ok ok', hsz', hkp.out.read, E18, hlr18⟩
                    case measure => simp [intOf]; omega
                  | some lb =>
                    rw [hl] at hru
                    obtain ⟨gu, ou, cu', rfl, hrd⟩ := hru
                    have e := hlast lb hl
                    have hbe : Hid ((L == lb) = true) := by show _ = _; rw [e]; simp
                    clear hlast hl hsl hrc hu e
                    go_wp2_with fail
                    refine (sameBytes_any _ _ _ _ _ L lb hr50 hrd).mono ?_
                    rw [hbe.out]
                    rintro e w19 ⟨rfl, k19⟩
                    go_wp2_with fail
                    go_roundw
                    case rel => exact ⟨n + 1, s'.read, by omega, by go_num, hd18.below k19, read_Ok ok', hsz', hkp.out.read, E18.below k19, hlr18.below E18.norm k19⟩
                    case measure => simp [intOf]; omega
                · have hlt' : ¬ (n : Int) < count := hlt
                  go_wp2_with fail
                  go_ret
                  exact ⟨rfl, E.bel⟩
            · have E8 := E.step st8 (by omega)
              have lr8 := hlr.step st8 (by omega) (by omega)
              clear st8 hd E hlr
              go_wp2_with fail
              refine (pending_law _ _ _ _ _ d8 ok E8.norm (by omega)).mono ?_
              rintro e w9 ⟨⟨a31, cap31, rfl, hr1⟩, kx1⟩
              have E9 := E8.below kx1
              have d9 := d8.below kx1
              have lr9 := lr8.below E8.norm kx1
              clear hr1
              by_cases hpn : s.pending = []
              · have hse0 : s.sectors = [] := by simp [DS.sectors, hpn]
                rw [hse0]
                clear hse0
                have zS : Hid ((s).size = size ∧ (s).count = count) := hsz
                have okS := ok
                have kS : Hid (Kept (s) last) := kept_none hfl.out hpn
                have dS := d9
                have ES := E9
                have lS := lr9
                clear hpn hfl hal
                have hS : ∃ S, S = s := ⟨_, rfl⟩
                obtain ⟨S, rfl⟩ := hS
                go_wp2_with fail
                go_loopw [16] (fun i wr => ∃ (n : Nat) (s' : DS), (n : Int) ≤ count ∧ i = .int .i64 n ∧ DiskAt wr 69 col8 20 b s' ∧ s'.Ok ∧ Hid (s'.size = size ∧ s'.count = count) ∧ Hid (Kept s' last) ∧ Env W col8 wr ∧ RowsAt wr col8 5 (.slice al count.toNat cl) last) (fun i _ => count.toNat - (intOf i).toNat)
                case atStart => exact ⟨0, S, by omega, rfl, dS, okS, zS, kS, ES, lS⟩
                case round =>
                  obtain ⟨n, s', hn, rfl, hd, ok', hsz', hkp, E, hlr⟩ := hrel
                  by_cases hlt : (n : Int) < count
                  · have rl := read_law wr col8 20 b s' n hd (by omega) ok' E.norm (by rw [hkp.out.pend]; simp) (by omega) (by rw [hsz'.out.2]; exact hlt)
                    rw [sector_quiet hkp.out.pend] at rl
                    have hbl := base_len ok' (n := n) (by omega) (by rw [hsz'.out.2]; exact hlt)
                    have hne : (((s'.base n).length : Int) != size) = false := by rw [hbl, hsz'.out.1]; simp; omega
                    have Hll := Lib.hid (show last.length = count.toNat by rw [hkp.out.llen, hsz'.out.2])
                    have hnl : n < last.length := by have := Hll.out; omega
                    have hlast := hkp.out.last n hnl
                    have n0 : (0 : Int) ≤ (n : Int) := by omega
                    have n1 : (n : Int) < (count.toNat : Int) := by omega
                    clear hbl
                    generalize s'.base n = L at *
                    go_wp2_with fail
                    refine rl.mono ?_
                    clear rl
                    rintro e w18 ⟨⟨a50, cap50, rfl, hr50⟩, hd18, st18⟩
                    have E18 := E.step st18 (by omega)
                    have hlr18 := hlr.step st18 (by omega) (by omega)
                    clear hd hlr E st18
                    obtain ⟨gl, ol, rfl⟩ := hlr18.addr Hll.out.symm (by omega)
                    obtain ⟨qs, hsl, hrc⟩ := hlr18
                    obtain ⟨u, hu, hru⟩ := hrc n hnl
                    rw [Hll.out] at hsl
                    have cu : w18.cell? ⟨gl, ol + n, none⟩ = some u := by
                      obtain ⟨g', o', e, _, _, hc⟩ := hsl.rd.get (by omega)
                      injection e with e
                      injection e with e1 e2
                      subst e1 e2
                      exact hc _ _ hu
                    rw [← Hll.out] at hsl
                    have hlr18 : RowsAt w18 col8 5 (.slice (some ⟨gl, ol, none⟩) count.toNat cl) last := ⟨qs, by rw [Hll.out] at hsl ⊢; exact hsl, hrc⟩
                    cases hl : last[n] with
                    | none =>
                      rw [hl] at hru
                      obtain rfl : u = .slice none 0 0 := hru
                      clear hlast hl hsl hrc hu
                      go_wp2_with fail
                      go_roundw
                      case rel => exact ⟨n + 1, s'.read, by omega, by go_num, hd18, read_Ok ok', hsz', hkp.out.read, E18, hlr18⟩
                      case measure => simp [intOf]; omega
                    | some lb =>
                      rw [hl] at hru
                      obtain ⟨gu, ou, cu', rfl, hrd⟩ := hru
                      have e := hlast lb hl
                      have hbe : Hid ((L == lb) = true) := by show _ = _; rw [e]; simp
                      clear hlast hl hsl hrc hu e
                      go_wp2_with fail
                      refine (sameBytes_any _ _ _ _ _ L lb hr50 hrd).mono ?_
                      rw [hbe.out]
                      rintro e w19 ⟨rfl, k19⟩
                      go_wp2_with fail
                      go_roundw
                      case rel => exact ⟨n + 1, s'.read, by omega, by go_num, hd18.below k19, read_Ok ok', hsz', hkp.out.read, E18.below k19, hlr18.below E18.norm k19⟩
                      case measure => simp [intOf]; omega
                  · have hlt' : ¬ (n : Int) < count := hlt
                    go_wp2_with fail
                    go_ret
                    exact ⟨rfl, E.bel⟩
              · have hse : ((s.sectors.length : Int) != 0) = true := by
                  have : s.sectors.length ≠ 0 := by simp [DS.sectors, hpn]
                  rw [bne_iff_ne]; omega
                clear hpn
                go_wp2_with fail
                refine (crash_law _ _ _ _ _ _ [] d9 (by omega) ok E9.norm (by omega) (SlAt.nil _ _ 3 _ _).rd).mono ?_
                rintro e w10 h10
                rcases h10 with ⟨hkb, rfl, col10, d10, st10⟩ | ⟨hk10, _, _⟩
                case inr => exact absurd (keepOk_nil _) hk10
                have E10 := E9.step st10 (by omega)
                have lr10 := lr9.step st10 (by omega) (by omega)
                clear st10 hse
                have zS : Hid ((s.crash []).size = size ∧ (s.crash []).count = count) := hsz
                have okS := crash_Ok ok hkb
                have kS : Hid (Kept (s.crash []) last) := kept_crash hfl.out ok hkb
                have dS := d10
                have ES := E10
                have lS := lr10
                clear hkb hfl hal
                generalize s.crash [] = S at *
                go_wp2_with fail
                go_loopw [16] (fun i wr => ∃ (n : Nat) (s' : DS), (n : Int) ≤ count ∧ i = .int .i64 n ∧ DiskAt wr 69 col10 20 b s' ∧ s'.Ok ∧ Hid (s'.size = size ∧ s'.count = count) ∧ Hid (Kept s' last) ∧ Env W col10 wr ∧ RowsAt wr col10 5 (.slice al count.toNat cl) last) (fun i _ => count.toNat - (intOf i).toNat)
                case atStart => exact ⟨0, S, by omega, rfl, dS, okS, zS, kS, ES, lS⟩
                case round =>
                  obtain ⟨n, s', hn, rfl, hd, ok', hsz', hkp, E, hlr⟩ := hrel
                  by_cases hlt : (n : Int) < count
                  · have rl := read_law wr col10 20 b s' n hd (by omega) ok' E.norm (by rw [hkp.out.pend]; simp) (by omega) (by rw [hsz'.out.2]; exact hlt)
                    rw [sector_quiet hkp.out.pend] at rl
                    have hbl := base_len ok' (n := n) (by omega) (by rw [hsz'.out.2]; exact hlt)
                    have hne : (((s'.base n).length : Int) != size) = false := by rw [hbl, hsz'.out.1]; simp; omega
                    have Hll := Lib.hid (show last.length = count.toNat by rw [hkp.out.llen, hsz'.out.2])
                    have hnl : n < last.length := by have := Hll.out; omega
                    have hlast := hkp.out.last n hnl
                    have n0 : (0 : Int) ≤ (n : Int) := by omega
                    have n1 : (n : Int) < (count.toNat : Int) := by omega
                    clear hbl
                    generalize s'.base n = L at *
                    go_wp2_with fail
                    refine rl.mono ?_
                    clear rl
                    rintro e w18 ⟨⟨a50, cap50, rfl, hr50⟩, hd18, st18⟩
                    have E18 := E.step st18 (by omega)
                    have hlr18 := hlr.step st18 (by omega) (by omega)
                    clear hd hlr E st18
                    obtain ⟨gl, ol, rfl⟩ := hlr18.addr Hll.out.symm (by omega)
                    obtain ⟨qs, hsl, hrc⟩ := hlr18
                    obtain ⟨u, hu, hru⟩ := hrc n hnl
                    rw [Hll.out] at hsl
                    have cu : w18.cell? ⟨gl, ol + n, none⟩ = some u := by
                      obtain ⟨g', o', e, _, _, hc⟩ := hsl.rd.get (by omega)
                      injection e with e
                      injection e with e1 e2
                      subst e1 e2
                      exact hc _ _ hu
                    rw [← Hll.out] at hsl
                    have hlr18 : RowsAt w18 col10 5 (.slice (some ⟨gl, ol, none⟩) count.toNat cl) last := ⟨qs, by rw [Hll.out] at hsl ⊢; exact hsl, hrc⟩
                    cases hl : last[n] with
                    | none =>
                      rw [hl] at hru
                      obtain rfl : u = .slice none 0 0 := hru
                      clear hlast hl hsl hrc hu
                      go_wp2_with fail
                      go_roundw
                      case rel => exact ⟨n + 1, s'.read, by omega, by go_num, hd18, read_Ok ok', hsz', hkp.out.read, E18, hlr18⟩
                      case measure => simp [intOf]; omega
                    | some lb =>
                      rw [hl] at hru
                      obtain ⟨gu, ou, cu', rfl, hrd⟩ := hru
                      have e := hlast lb hl
                      have hbe : Hid ((L == lb) = true) := by show _ = _; rw [e]; simp
                      clear hlast hl hsl hrc hu e
                      go_wp2_with fail
                      refine (sameBytes_any _ _ _ _ _ L lb hr50 hrd).mono ?_
                      rw [hbe.out]
                      rintro e w19 ⟨rfl, k19⟩
                      go_wp2_with fail
                      go_roundw
                      case rel => exact ⟨n + 1, s'.read, by omega, by go_num, hd18.below k19, read_Ok ok', hsz', hkp.out.read, E18.below k19, hlr18.below E18.norm k19⟩
                      case measure => simp [intOf]; omega
                  · have hlt' : ¬ (n : Int) < count := hlt
                    go_wp2_with fail
                    go_ret
                    exact ⟨rfl, E.bel⟩
end Go.Proofs.Ytlkebppmdbgdmaa
