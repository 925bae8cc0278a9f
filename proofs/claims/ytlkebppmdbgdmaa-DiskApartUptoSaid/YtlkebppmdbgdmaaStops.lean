/-
  DiskStops: the plain law and the walk.
-/
import Derived.Test.YtlkebppmdbgdmaaRepeats
namespace Go.Proofs.Ytlkebppmdbgdmaa
open Go.RowKit
set_option linter.unusedSimpArgs false
set_option linter.unusedVariables false

/-- s has the power of n, of which D are used; t has it always -/
structure Twin (n D : Int) (s t : DS) : Prop where
  size : s.size = t.size
  count : s.count = t.count
  platter : s.platter = t.platter
  pending : s.pending = t.pending
  tstops : t.stops = false
  stops : s.stops = decide (0 ≤ n)
  left : s.left = if 0 ≤ n ∧ D < n then n - D else 0
theorem twin_new (n size count : Int) : Twin n 0 ((DS.new size count).stop n) (DS.new size count) := by
  refine ⟨rfl, rfl, rfl, rfl, rfl, rfl, ?_⟩
  simp only [DS.stop]
  split <;> split <;> omega
theorem Twin.off {n D : Int} {s t : DS} (h : Twin n D s t) : s.off = (decide (0 ≤ n) && decide (n ≤ D)) := by
  simp only [DS.off, h.stops, h.left]
  by_cases h0 : 0 ≤ n
  · by_cases h1 : n ≤ D
    · rw [if_neg (by omega)]
      simp [h0, h1]
    · rw [if_pos (by omega)]
      have e : ¬ (n - D = 0) := by omega
      simp [h0, h1, e]
  · simp [h0]
theorem Twin.fit {n D : Int} {s t : DS} (h : Twin n D s t) (m : Int) (l : List Int) : t.fit m l = s.fit m l := by simp only [DS.fit, h.size, h.count]
theorem alive_off (s : DS) : s.alive = !s.off := by
  simp only [DS.alive, DS.off]; cases s.stops <;> simp
theorem Twin.talive {n D : Int} {s t : DS} (h : Twin n D s t) : t.alive = true := by simp [DS.alive, h.tstops]
theorem Twin.tick {n D : Int} {s t : DS} (h : Twin n D s t) (hoff : ¬ (0 ≤ n ∧ n ≤ D)) (hD : 0 ≤ D) : s.tick.left = if 0 ≤ n ∧ D + 1 < n then n - (D + 1) else 0 := by
  simp only [DS.tick, h.stops, h.left]
  by_cases h0 : 0 ≤ n
  · have h1 : D < n := by omega
    have e : ¬ (n - D = 0) := by omega
    rw [if_pos (c := 0 ≤ n ∧ D < n) ⟨h0, h1⟩, if_pos (by simp [h0, e])]
    by_cases h2 : D + 1 < n
    · rw [if_pos ⟨h0, h2⟩]; omega
    · rw [if_neg (by omega)]; omega
  · simp [h0]
theorem Twin.live {n D : Int} {s t : DS} (h : Twin n D s t) (hoff : ¬ (0 ≤ n ∧ n ≤ D)) : s.alive = true := by
  rw [alive_off, h.off]
  by_cases h0 : 0 ≤ n
  · have : ¬ n ≤ D := by omega
    simp [h0, this]
  · simp [h0]
theorem Twin.dead {n D : Int} {s t : DS} (h : Twin n D s t) (hoff : 0 ≤ n ∧ n ≤ D) : s.alive = false := by
  rw [alive_off, h.off]; simp [hoff]
theorem Twin.more {n D : Int} {s t : DS} (h : Twin n D s t) (hoff : 0 ≤ n ∧ n ≤ D) : Twin n (D + 1) s t := by
  refine ⟨h.size, h.count, h.platter, h.pending, h.tstops, h.stops, ?_⟩
  rw [h.left, if_neg (by omega), if_neg (by omega)]
theorem Twin.write {n D : Int} {s t : DS} (h : Twin n D s t) (hoff : ¬ (0 ≤ n ∧ n ≤ D)) (hD : 0 ≤ D) {m : Int} {l : List Int} (hf : s.fit m l = true) : Twin n (D + 1) (s.wrote m l) (t.wrote m l) := by
  have hs := h.live hoff
  have ht := h.talive
  simp only [DS.wrote, hf, h.fit, if_true, DS.write, hs, ht]
  exact ⟨h.size, h.count, h.platter, by simp [h.pending], by simp [DS.tick, h.tstops], h.stops, h.tick hoff hD⟩
theorem Twin.writeDead {n D : Int} {s t : DS} (h : Twin n D s t) (hoff : 0 ≤ n ∧ n ≤ D) (m : Int) (l : List Int) : s.wrote m l = s := by
  have hs := h.dead hoff
  simp [DS.wrote, DS.write, hs]
theorem writeBad {s : DS} {m : Int} {l : List Int} (hf : s.fit m l = false) : s.wrote m l = s := by simp [DS.wrote, hf]
theorem Twin.flush {n D : Int} {s t : DS} (h : Twin n D s t) (hoff : ¬ (0 ≤ n ∧ n ≤ D)) (hD : 0 ≤ D) : Twin n (D + 1) s.flush t.flush := by
  have hs := h.live hoff
  have ht := h.talive
  simp only [DS.flush, hs, ht, if_true]
  exact ⟨h.size, h.count, by simp [h.platter, h.pending, h.size], rfl, by simp [DS.tick, h.tstops], h.stops, h.tick hoff hD⟩
theorem Twin.flushDead {n D : Int} {s t : DS} (h : Twin n D s t) (hoff : 0 ≤ n ∧ n ≤ D) : s.flush = s := by
  have hs := h.dead hoff
  simp [DS.flush, hs]
theorem Twin.crash {n D : Int} {s t : DS} (h : Twin n D s t) (keep : List Int) : (s.crash keep).platter = (t.crash keep).platter := by
  simp [DS.crash, DS.kept, h.platter, h.pending, h.size]

theorem off_law (w : World) (col : Nat → Nat) (c b : Nat) (s : DS) (h : DiskAt w 69 col c b s) (ok : s.Ok) :
    Calls Try.prog 27 #[.pointer (some ⟨b, 0, none⟩)] w fun e w' => e = .returned (.bool s.off) ∧ w = w' := by
  obtain ⟨pa, pcap, qa, qn, qcap, qs, h⟩ := h
  exact off_any h (by have := ok.size0; omega)
theorem stop_law (w : World) (col : Nat → Nat) (c b : Nat) (s : DS) (h : DiskAt w 69 col c b s) (hc : 1 < c) (ok : s.Ok) (hnm : Norm w col) (n : Int) :
    Calls Try.prog 26 #[.pointer (some ⟨b, 0, none⟩), .int .i64 n] w fun e w' => e = .returned (.tuple #[]) ∧ Did 69 c col b (s.stop n) w w' := by
  obtain ⟨pa, pcap, qa, qn, qcap, qs, h⟩ := h
  refine (stop_any h hc (by have := ok.size0; omega) n).mono ?_
  rintro e w' ⟨rfl, hd, hk⟩
  exact ⟨rfl, col, hd.at, Ext.refl _ _, hk, hnm.grow hk.size⟩
set_option maxHeartbeats 4000000 in
set_option maxRecDepth 100000 in
theorem stops_any (W : World) (size count : Int) (v2 : Value) (l : List OpD) (h2 : OpsAt W (fun k => k < W.heap.size) v2 l ∧ l.length ≤ 1048576) (n : Int) (hnb : (Lit.int .i64 n).wf = true) (v3 : Value) (keep : List Int) (h3 : IntsAt W (fun k => k < W.heap.size) v3 keep) :
    Calls Try.prog 6 #[.int .i64 size, .int .i64 count, v2, .int .i64 n, v3] W fun e w' => e = .returned (.bool true) ∧ Below W.heap.size W w' := by
  obtain ⟨a2, cap2, rfl, hmax2⟩ := h2.1.shape
  obtain ⟨a3, cap3, rfl, hmax3⟩ := RdAt.shape h3
  obtain ⟨h2, hl2⟩ := h2
  unfold maxLen at hmax2 hmax3
  have hnb' : n ≤ 9223372036854775807 := by simp [Lit.wf, IntKind.min, IntKind.max, IntKind.bits, IntKind.signed] at hnb; omega
  cases hf : fitsD size count with
  | false =>
    have Hf := Lib.hid hf; clear hf
    go_enter Try.func6, Try.ntmps6
    go_wp2_with fail
    refine (lives_any _).mono ?_
    rintro e w1 ⟨rfl, k1⟩
    go_wp2_with (go_at_call 12; refine (new_no _ _ _ Hf.out).mono ?_; rintro e w2 ⟨rfl, rfl⟩)
    go_ret
    exact ⟨rfl, k1⟩
  | true =>
    have ok0 := new_Ok hf
    obtain ⟨f0, f1, f2, f3⟩ := fits_bounds hf
    have Hf := Lib.hid hf; clear hf
    go_enter Try.func6, Try.ntmps6
    go_wp2_with fail
    refine (lives_any _).mono ?_
    rintro e w1 ⟨rfl, k1⟩
    have E1 := (Env.refl W).below k1
    go_wp2_with fail
    refine (new_ok _ _ _ Hf.out (fun _ => 0) 10).mono ?_
    rintro e w2 ⟨⟨b, col, rfl, hb, h5, x5, m5⟩, k5⟩
    have E2 : Env W col w2 := E1.step (c := 10) ⟨x5, Chg.of_below k5, m5⟩ (by omega)
    go_wp2_with fail
    refine (new_ok _ _ _ Hf.out col 20).mono ?_
    rintro e w3 ⟨⟨b2, col3, rfl, hb2, h6, x6, m6⟩, k6⟩
    have st3 : Step 20 col col3 w2 w3 := ⟨x6, Chg.of_below k6, m6⟩
    have E3 : Env W col3 w3 := E2.step st3 (by omega)
    have h5' := st3.other (by omega) (by omega) h5
    clear st3
    go_wp2_with fail
    refine (stop_law _ _ _ _ _ h5' (by omega) ok0 E3.norm n).mono ?_
    rintro e w4 ⟨rfl, col4, h7, st4⟩
    have E4 := E3.step st4 (by omega)
    have h6' := st4.other (by omega) (by omega) h6
    have oks := stop_Ok ok0 (n := n) hnb'
    have tw0 := twin_new n size count
    have z0 : Hid (((DS.new size count).stop n).size = size ∧ ((DS.new size count).stop n).count = count) := ⟨rfl, rfl⟩
    have p0 : ((DS.new size count).stop n).pending.length ≤ 0 := Nat.le_refl _
    have p0' : (DS.new size count).pending.length ≤ 0 := Nat.le_refl _
    clear st4 h5 h6 h5'
    generalize (DS.new size count).stop n = S0 at *
    generalize DS.new size count = T0 at *
    go_wp2_with fail
    go_loopw [15, 16] (fun d i wr => ∃ (k : Nat) (D : Int) (col : Nat → Nat) (s t : DS), k ≤ l.length ∧ d = .int .i64 D ∧ i = .int .i64 k ∧ 0 ≤ D ∧ D ≤ k ∧ DiskAt wr 69 col 10 b s ∧ DiskAt wr 69 col 20 b2 t ∧ s.Ok ∧ t.Ok ∧ Env W col wr ∧ Twin n D s t ∧ Hid (s.size = size ∧ s.count = count) ∧ s.pending.length ≤ k ∧ t.pending.length ≤ k) (fun _ i _ => l.length - (intOf i).toNat)
    case atStart => exact ⟨0, 0, col4, S0, T0, by omega, rfl, rfl, by omega, by omega, h7, h6', oks, ok0, E4, tw0, z0, p0, p0'⟩
    case round =>
      obtain ⟨k, D, col', s, t, hk, rfl, rfl, hD0, hDk, hd, hcd, ok, okt, E, tw, hsz, hp, hpt⟩ := hrel
      by_cases hlt : k < l.length
      · obtain ⟨g, off, rfl, hg, _, hcs⟩ := h2.get (by omega)
        have hc := hcs k hlt
        obtain ⟨hby0, hby1⟩ := hc.byte
        obtain ⟨c0, c1, c2⟩ := E.op hg hc
        generalize l[k] = o at *
        clear hcs
        have i0 : (0 : Int) ≤ (k : Int) := by omega
        have i1 : (k : Int) < (l.length : Int) := by omega
        have hwD : IntKind.i64.wrap (D + 1) = D + 1 := IntWalk.i64_in _ (by omega)
        by_cases hn : 0 ≤ n
        · by_cases hD : n ≤ D
          · have hoff : (0 ≤ n ∧ n ≤ D) := by omega
            have hov : s.off = true := by rw [tw.off]; simp; omega
            have Hov := Lib.hid hov; clear hov
            have offc := off_law wr col' 10 b s hd ok
            rw [Hov.out] at offc
            by_cases hk1 : o.kind = 1
            · have q1 : (o.kind == 1) = true := by simp [hk1]
              have q3 : (o.kind == 3) = false := by simp [hk1]
              clear hk1
              go_wp2_with (go_at_call 27; refine offc.mono ?_; rintro e w' ⟨rfl, rfl⟩)
              refine (filled_law _ _ E.norm size o.byte (by omega) ⟨hby0, hby1⟩).mono ?_
              rintro e w6 ⟨⟨a6, cap6, rfl, hs6⟩, hb6⟩
              have E6 : Env W col' w6 := E.below hb6
              have hd6 := hd.below hb6
              have hc6 := hcd.below hb6
              have c61 := (E6.op hg hc).2.1
              go_wp2_with fail
              refine (write_law _ _ _ _ _ _ _ _ hd6 (by omega) ok E6.norm hs6.rd (by omega)).mono ?_
              rintro e w7 ⟨rfl, col7, hd7, st7⟩
              have E7 := E6.step st7 (by omega)
              have c70 := (E7.op hg hc).1
              have c71 := (E7.op hg hc).2.1
              have hc7 := st7.other (by omega) (by omega) hc6
              have r7 := st7.rd (by omega) hs6.rd
              have p7 := wrote_pend s o.n (filled size o.byte)
              have ok7 := wrote_Ok ok o.n (filled size o.byte)
              clear st7 hd6 hc6 hs6
              unfold DS.wcode
              cases hfit : s.fit o.n (filled size o.byte) with
              | false =>
                rw [writeBad hfit] at hd7
                have Hfit := Lib.hid hfit; clear hfit
                go_wp2_with fail
                go_roundw
                case rel => exact ⟨k + 1, D, col7, s, t, by omega, by go_num, by go_num, by omega, by omega, hd7, hc7, ok, okt, E7, tw, hsz, by omega, by omega⟩
                case measure => simp [intOf]; omega
              | true =>
                rw [tw.writeDead hoff] at hd7
                have Hfit := Lib.hid hfit; clear hfit
                go_wp2_with fail
                go_roundw
                case rel => exact ⟨k + 1, D + 1, col7, s, t, by omega, by go_num, by go_num, by omega, by omega, hd7, hc7, ok, okt, E7, tw.more hoff, hsz, by omega, by omega⟩
                case measure => simp [intOf]; omega
            · have q1 : (o.kind == 1) = false := by simp [hk1]
              by_cases hk3 : o.kind = 3
              · have q3 : (o.kind == 3) = true := by simp [hk3]
                clear hk1 hk3
                have p7 := flush_pend s
                have pt7 := flush_pend t
                have ok7 := flush_Ok ok
                have okt7 := flush_Ok okt
                have Hsz7 : Hid (s.flush.size = size ∧ s.flush.count = count) := ⟨(flush_size s).trans hsz.out.1, (flush_count s).trans hsz.out.2⟩
                rw [tw.flushDead hoff] at p7 ok7 Hsz7
                have fl := flush_law wr col' 10 b s hd (by omega) ok E.norm (by omega)
                rw [tw.flushDead hoff] at fl
                go_wp2_with (first | (go_at_call 27; refine offc.mono ?_; rintro e w' ⟨rfl, rfl⟩) | (go_at_call 15; refine fl.mono ?_; rintro e w7 ⟨rfl, col7, hd7, st7⟩; (have E7 := E.step st7 (by omega)); (have hc7 := st7.other (by omega) (by omega) hcd)))
                go_roundw
                case rel => exact ⟨k + 1, D + 1, col7, s, t, by omega, by go_num, by go_num, by omega, by omega, hd7, hc7, ok, okt, E7, tw.more hoff, hsz, by omega, by omega⟩
                case measure => simp [intOf]; omega
              · have q3 : (o.kind == 3) = false := by simp [hk3]
                clear hk1 hk3
                go_wp2_with (go_at_call 27; refine offc.mono ?_; rintro e w' ⟨rfl, rfl⟩)
                go_roundw
                case rel => exact ⟨k + 1, D, col', s, t, by omega, by go_num, by go_num, by omega, by omega, hd, hcd, ok, okt, E, tw, hsz, by omega, by omega⟩
                case measure => simp [intOf]; omega
          · have hoff : ¬ (0 ≤ n ∧ n ≤ D) := by omega
            have hov : s.off = false := by rw [tw.off]; simp; omega
            have Hov := Lib.hid hov; clear hov
            have offc := off_law wr col' 10 b s hd ok
            rw [Hov.out] at offc
            by_cases hk1 : o.kind = 1
            · have q1 : (o.kind == 1) = true := by simp [hk1]
              have q3 : (o.kind == 3) = false := by simp [hk1]
              clear hk1
              go_wp2_with (go_at_call 27; refine offc.mono ?_; rintro e w' ⟨rfl, rfl⟩)
              refine (filled_law _ _ E.norm size o.byte (by omega) ⟨hby0, hby1⟩).mono ?_
              rintro e w6 ⟨⟨a6, cap6, rfl, hs6⟩, hb6⟩
              have E6 : Env W col' w6 := E.below hb6
              have hd6 := hd.below hb6
              have hc6 := hcd.below hb6
              have c61 := (E6.op hg hc).2.1
              go_wp2_with fail
              refine (write_law _ _ _ _ _ _ _ _ hd6 (by omega) ok E6.norm hs6.rd (by omega)).mono ?_
              rintro e w7 ⟨rfl, col7, hd7, st7⟩
              have E7 := E6.step st7 (by omega)
              have c70 := (E7.op hg hc).1
              have c71 := (E7.op hg hc).2.1
              have hc7 := st7.other (by omega) (by omega) hc6
              have r7 := st7.rd (by omega) hs6.rd
              have p7 := wrote_pend s o.n (filled size o.byte)
              have ok7 := wrote_Ok ok o.n (filled size o.byte)
              clear st7 hd6 hc6 hs6
              unfold DS.wcode
              cases hfit : s.fit o.n (filled size o.byte) with
              | false =>
                rw [writeBad hfit] at hd7
                have Hfit := Lib.hid hfit; clear hfit
                go_wp2_with fail
                go_roundw
                case rel => exact ⟨k + 1, D, col7, s, t, by omega, by go_num, by go_num, by omega, by omega, hd7, hc7, ok, okt, E7, tw, hsz, by omega, by omega⟩
                case measure => simp [intOf]; omega
              | true =>
                have tw' := tw.write hoff (by omega) hfit
                have hft : t.wcode o.n (filled size o.byte) = 0 := by unfold DS.wcode; rw [tw.fit, hfit]; rfl
                have hft' := write_law w7 _ _ _ t o.n (.slice a6 (filled size o.byte).length cap6) (filled size o.byte) hc7 (by omega) okt E7.norm r7 (by omega)
                rw [hft] at hft'
                have sz7 := wrote_size s o.n (filled size o.byte)
                have n7 := wrote_count s o.n (filled size o.byte)
                have Hsz7 : Hid ((s.wrote o.n (filled size o.byte)).size = size ∧ (s.wrote o.n (filled size o.byte)).count = count) := ⟨sz7.trans hsz.out.1, n7.trans hsz.out.2⟩
                have pt7 := wrote_pend t o.n (filled size o.byte)
                have okt7 := wrote_Ok okt o.n (filled size o.byte)
                clear hft hfit sz7 n7
                generalize s.wrote o.n (filled size o.byte) = s7 at *
                generalize t.wrote o.n (filled size o.byte) = t7 at *
                go_wp2_with (go_at_call 14; refine hft'.mono ?_; rintro e w8 ⟨rfl, col8, hc8, st8⟩; (have E8 := E7.step st8 (by omega)); (have c80 := (E8.op hg hc).1); (have hd8 := st8.other (by omega) (by omega) hd7))
                go_roundw
                case rel => exact ⟨k + 1, D + 1, col8, s7, t7, by omega, by go_num, by go_num, by omega, by omega, hd8, hc8, ok7, okt7, E8, tw', Hsz7, by omega, by omega⟩
                case measure => simp [intOf]; omega
            · have q1 : (o.kind == 1) = false := by simp [hk1]
              by_cases hk3 : o.kind = 3
              · have q3 : (o.kind == 3) = true := by simp [hk3]
                clear hk1 hk3
                have p7 := flush_pend s
                have pt7 := flush_pend t
                have ok7 := flush_Ok ok
                have okt7 := flush_Ok okt
                have Hsz7 : Hid (s.flush.size = size ∧ s.flush.count = count) := ⟨(flush_size s).trans hsz.out.1, (flush_count s).trans hsz.out.2⟩
                have tw' := tw.flush hoff (by omega)
                have fl := flush_law wr col' 10 b s hd (by omega) ok E.norm (by omega)
                generalize s.flush = s7 at *
                go_wp2_with (first | (go_at_call 27; refine offc.mono ?_; rintro e w' ⟨rfl, rfl⟩) | (go_at_call 15; refine fl.mono ?_; rintro e w7 ⟨rfl, col7, hd7, st7⟩; clear fl; (have E7 := E.step st7 (by omega)); (have hc7 := st7.other (by omega) (by omega) hcd)))
                refine (flush_law w7 col7 20 b2 t hc7 (by omega) okt E7.norm (by omega)).mono ?_
                rintro e w8 ⟨rfl, col8, hc8, st8⟩
                have E8 := E7.step st8 (by omega)
                have hd8 := st8.other (by omega) (by omega) hd7
                generalize t.flush = t7 at *
                go_wp2_with fail
                go_roundw
                case rel => exact ⟨k + 1, D + 1, col8, s7, t7, by omega, by go_num, by go_num, by omega, by omega, hd8, hc8, ok7, okt7, E8, tw', Hsz7, by omega, by omega⟩
                case measure => simp [intOf]; omega
              · have q3 : (o.kind == 3) = false := by simp [hk3]
                clear hk1 hk3
                go_wp2_with (go_at_call 27; refine offc.mono ?_; rintro e w' ⟨rfl, rfl⟩)
                go_roundw
                case rel => exact ⟨k + 1, D, col', s, t, by omega, by go_num, by go_num, by omega, by omega, hd, hcd, ok, okt, E, tw, hsz, by omega, by omega⟩
                case measure => simp [intOf]; omega
        · have hoff : ¬ (0 ≤ n ∧ n ≤ D) := by omega
          have hov : s.off = false := by rw [tw.off]; simp; omega
          have Hov := Lib.hid hov; clear hov
          have offc := off_law wr col' 10 b s hd ok
          rw [Hov.out] at offc
          by_cases hk1 : o.kind = 1
          · have q1 : (o.kind == 1) = true := by simp [hk1]
            have q3 : (o.kind == 3) = false := by simp [hk1]
            clear hk1
            go_wp2_with (go_at_call 27; refine offc.mono ?_; rintro e w' ⟨rfl, rfl⟩)
            refine (filled_law _ _ E.norm size o.byte (by omega) ⟨hby0, hby1⟩).mono ?_
            rintro e w6 ⟨⟨a6, cap6, rfl, hs6⟩, hb6⟩
            have E6 : Env W col' w6 := E.below hb6
            have hd6 := hd.below hb6
            have hc6 := hcd.below hb6
            have c61 := (E6.op hg hc).2.1
            go_wp2_with fail
            refine (write_law _ _ _ _ _ _ _ _ hd6 (by omega) ok E6.norm hs6.rd (by omega)).mono ?_
            rintro e w7 ⟨rfl, col7, hd7, st7⟩
            have E7 := E6.step st7 (by omega)
            have c70 := (E7.op hg hc).1
            have c71 := (E7.op hg hc).2.1
            have hc7 := st7.other (by omega) (by omega) hc6
            have r7 := st7.rd (by omega) hs6.rd
            have p7 := wrote_pend s o.n (filled size o.byte)
            have ok7 := wrote_Ok ok o.n (filled size o.byte)
            clear st7 hd6 hc6 hs6
            unfold DS.wcode
            cases hfit : s.fit o.n (filled size o.byte) with
            | false =>
              rw [writeBad hfit] at hd7
              have Hfit := Lib.hid hfit; clear hfit
              go_wp2_with fail
              go_roundw
              case rel => exact ⟨k + 1, D, col7, s, t, by omega, by go_num, by go_num, by omega, by omega, hd7, hc7, ok, okt, E7, tw, hsz, by omega, by omega⟩
              case measure => simp [intOf]; omega
            | true =>
              have tw' := tw.write hoff (by omega) hfit
              have hft : t.wcode o.n (filled size o.byte) = 0 := by unfold DS.wcode; rw [tw.fit, hfit]; rfl
              have hft' := write_law w7 _ _ _ t o.n (.slice a6 (filled size o.byte).length cap6) (filled size o.byte) hc7 (by omega) okt E7.norm r7 (by omega)
              rw [hft] at hft'
              have sz7 := wrote_size s o.n (filled size o.byte)
              have n7 := wrote_count s o.n (filled size o.byte)
              have Hsz7 : Hid ((s.wrote o.n (filled size o.byte)).size = size ∧ (s.wrote o.n (filled size o.byte)).count = count) := ⟨sz7.trans hsz.out.1, n7.trans hsz.out.2⟩
              have pt7 := wrote_pend t o.n (filled size o.byte)
              have okt7 := wrote_Ok okt o.n (filled size o.byte)
              clear hft hfit sz7 n7
              generalize s.wrote o.n (filled size o.byte) = s7 at *
              generalize t.wrote o.n (filled size o.byte) = t7 at *
              go_wp2_with (go_at_call 14; refine hft'.mono ?_; rintro e w8 ⟨rfl, col8, hc8, st8⟩; (have E8 := E7.step st8 (by omega)); (have c80 := (E8.op hg hc).1); (have hd8 := st8.other (by omega) (by omega) hd7))
              go_roundw
              case rel => exact ⟨k + 1, D + 1, col8, s7, t7, by omega, by go_num, by go_num, by omega, by omega, hd8, hc8, ok7, okt7, E8, tw', Hsz7, by omega, by omega⟩
              case measure => simp [intOf]; omega
          · have q1 : (o.kind == 1) = false := by simp [hk1]
            by_cases hk3 : o.kind = 3
            · have q3 : (o.kind == 3) = true := by simp [hk3]
              clear hk1 hk3
              have p7 := flush_pend s
              have pt7 := flush_pend t
              have ok7 := flush_Ok ok
              have okt7 := flush_Ok okt
              have Hsz7 : Hid (s.flush.size = size ∧ s.flush.count = count) := ⟨(flush_size s).trans hsz.out.1, (flush_count s).trans hsz.out.2⟩
              have tw' := tw.flush hoff (by omega)
              have fl := flush_law wr col' 10 b s hd (by omega) ok E.norm (by omega)
              generalize s.flush = s7 at *
              go_wp2_with (first | (go_at_call 27; refine offc.mono ?_; rintro e w' ⟨rfl, rfl⟩) | (go_at_call 15; refine fl.mono ?_; rintro e w7 ⟨rfl, col7, hd7, st7⟩; clear fl; (have E7 := E.step st7 (by omega)); (have hc7 := st7.other (by omega) (by omega) hcd)))
              refine (flush_law w7 col7 20 b2 t hc7 (by omega) okt E7.norm (by omega)).mono ?_
              rintro e w8 ⟨rfl, col8, hc8, st8⟩
              have E8 := E7.step st8 (by omega)
              have hd8 := st8.other (by omega) (by omega) hd7
              generalize t.flush = t7 at *
              go_wp2_with fail
              go_roundw
              case rel => exact ⟨k + 1, D + 1, col8, s7, t7, by omega, by go_num, by go_num, by omega, by omega, hd8, hc8, ok7, okt7, E8, tw', Hsz7, by omega, by omega⟩
              case measure => simp [intOf]; omega
            · have q3 : (o.kind == 3) = false := by simp [hk3]
              clear hk1 hk3
              go_wp2_with (go_at_call 27; refine offc.mono ?_; rintro e w' ⟨rfl, rfl⟩)
              go_roundw
              case rel => exact ⟨k + 1, D, col', s, t, by omega, by go_num, by go_num, by omega, by omega, hd, hcd, ok, okt, E, tw, hsz, by omega, by omega⟩
              case measure => simp [intOf]; omega
      · obtain rfl : k = l.length := by omega
        have hse : Hid ((s.sectors == t.sectors) = true) := by show _ = _; simp [DS.sectors, tw.pending]
        have hpe : Hid ((s.platter == t.platter) = true) := by show _ = _; simp [tw.platter]
        go_wp2_with fail
        refine (pending_law _ _ _ _ _ hd ok E.norm (by omega)).mono ?_
        rintro e x1 ⟨⟨a31, cap31, rfl, hr1⟩, kx1⟩
        have Ex1 := E.below kx1
        have hb1 := hcd.below kx1
        go_wp2_with fail
        refine (pending_law _ _ _ _ _ hb1 okt Ex1.norm (by omega)).mono ?_
        rintro e x2 ⟨⟨a32, cap32, rfl, hr2⟩, kx2⟩
        have Ex2 := Ex1.below kx2
        go_wp2_with fail
        refine (sameInts_any _ _ _ _ _ _ _ (hr1.below kx2) hr2).mono ?_
        rw [hse.out]
        rintro e x3 ⟨rfl, kx3⟩
        have Ex3 := Ex2.below kx3
        have ha3 := ((hd.below kx1).below kx2).below kx3
        have hb3 := (hb1.below kx2).below kx3
        go_wp2_with fail
        refine (image_law _ _ _ _ _ ha3 ok Ex3.norm).mono ?_
        rintro e y1 ⟨⟨a41, cap41, rfl, hr41⟩, ky1⟩
        have Ey1 := Ex3.below ky1
        have hby1' := hb3.below ky1
        go_wp2_with fail
        refine (image_law _ _ _ _ _ hby1' okt Ey1.norm).mono ?_
        rintro e y2 ⟨⟨a42, cap42, rfl, hr42⟩, ky2⟩
        have Ey2 := Ey1.below ky2
        go_wp2_with fail
        refine (sameBytes_any _ _ _ _ _ _ _ (hr41.rd.below ky2) hr42.rd).mono ?_
        rw [hpe.out]
        rintro e y3 ⟨rfl, ky3⟩
        have Ey3 := Ey2.below ky3
        have hay3 := ((ha3.below ky1).below ky2).below ky3
        have hby3 := (hby1'.below ky2).below ky3
        clear hr41 hr42
        go_wp2_with fail
        refine (crash_law _ _ _ _ _ _ keep hay3 (by omega) ok Ey3.norm (by omega) (Ey3.rd h3)).mono ?_
        rintro e z1 hz1
        have hKt : KeepOk t.pending.length keep ↔ KeepOk s.pending.length keep := by rw [tw.pending]
        rcases hz1 with ⟨hk1, rfl, col1, hdz, stz⟩ | ⟨hk1, rfl, col1, hdz, stz⟩
        · have hcz := stz.other (by omega) (by omega) hby3
          have Ez := Ey3.step stz (by omega)
          clear stz
          go_wp2_with fail
          refine (crash_law _ _ _ _ _ _ keep hcz (by omega) okt Ez.norm (by omega) (Ez.rd h3)).mono ?_
          rintro e z2 hz2
          rcases hz2 with ⟨hk2, rfl, col2', hcz2, stz2⟩ | ⟨hk2, rfl, col2', hcz2, stz2⟩
          · have hdz2 := stz2.other (by omega) (by omega) hdz
            have Ez2 := Ez.step stz2 (by omega)
            clear stz2
            have okS := crash_Ok ok hk1
            have okT := crash_Ok okt hk2
            have hpe : Hid (((s.crash keep).platter == (t.crash keep).platter) = true) := by show _ = _; simp [tw.crash keep]
            have hse : Hid (((s.crash keep).sectors == (t.crash keep).sectors) = true) := rfl
            have hqS : (s.crash keep).pending.length ≤ 0 := Nat.le_refl _
            have hqT : (t.crash keep).pending.length ≤ 0 := Nat.le_refl _
            clear hk1 hk2 hKt
            generalize s.crash keep = S1 at *
            generalize t.crash keep = T1 at *
            go_wp2_with fail
            refine (image_law _ _ _ _ _ hdz2 okS Ez2.norm).mono ?_
            rintro e y1 ⟨⟨a41, cap41, rfl, hr41⟩, ky1⟩
            have Ey1 := Ez2.below ky1
            have hby1' := hcz2.below ky1
            go_wp2_with fail
            refine (image_law _ _ _ _ _ hby1' okT Ey1.norm).mono ?_
            rintro e y2 ⟨⟨a42, cap42, rfl, hr42⟩, ky2⟩
            have Ey2 := Ey1.below ky2
            go_wp2_with fail
            refine (sameBytes_any _ _ _ _ _ _ _ (hr41.rd.below ky2) hr42.rd).mono ?_
            rw [hpe.out]
            rintro e y3 ⟨rfl, ky3⟩
            have Ey3 := Ey2.below ky3
            have hay3 := ((hdz2.below ky1).below ky2).below ky3
            have hby3 := (hby1'.below ky2).below ky3
            clear hr41 hr42
            go_wp2_with fail
            refine (pending_law _ _ _ _ _ hay3 okS Ey3.norm (by omega)).mono ?_
            rintro e x1 ⟨⟨a31, cap31, rfl, hr1⟩, kx1⟩
            have Ex1 := Ey3.below kx1
            have hb1 := hby3.below kx1
            go_wp2_with fail
            refine (pending_law _ _ _ _ _ hb1 okT Ex1.norm (by omega)).mono ?_
            rintro e x2 ⟨⟨a32, cap32, rfl, hr2⟩, kx2⟩
            have Ex2 := Ex1.below kx2
            go_wp2_with fail
            refine (sameInts_any _ _ _ _ _ _ _ (hr1.below kx2) hr2).mono ?_
            rw [hse.out]
            rintro e x3 ⟨rfl, kx3⟩
            have Ex3 := Ex2.below kx3
            have ha3 := ((hay3.below kx1).below kx2).below kx3
            have hb3 := (hb1.below kx2).below kx3
            go_wp2_with fail
            go_ret
            exact ⟨rfl, Ex3.bel⟩
          · exact absurd (hKt.2 hk1) hk2
        · have hcz := stz.other (by omega) (by omega) hby3
          have Ez := Ey3.step stz (by omega)
          clear stz
          go_wp2_with fail
          refine (crash_law _ _ _ _ _ _ keep hcz (by omega) okt Ez.norm (by omega) (Ez.rd h3)).mono ?_
          rintro e z2 hz2
          rcases hz2 with ⟨hk2, rfl, col2', hcz2, stz2⟩ | ⟨hk2, rfl, col2', hcz2, stz2⟩
          · exact absurd (hKt.1 hk2) hk1
          · have hdz2 := stz2.other (by omega) (by omega) hdz
            have Ez2 := Ez.step stz2 (by omega)
            clear stz2
            have okS := ok
            have okT := okt
            go_wp2_with fail
            refine (image_law _ _ _ _ _ hdz2 okS Ez2.norm).mono ?_
            rintro e y1 ⟨⟨a41, cap41, rfl, hr41⟩, ky1⟩
            have Ey1 := Ez2.below ky1
            have hby1' := hcz2.below ky1
            go_wp2_with fail
            refine (image_law _ _ _ _ _ hby1' okT Ey1.norm).mono ?_
            rintro e y2 ⟨⟨a42, cap42, rfl, hr42⟩, ky2⟩
            have Ey2 := Ey1.below ky2
            go_wp2_with fail
            refine (sameBytes_any _ _ _ _ _ _ _ (hr41.rd.below ky2) hr42.rd).mono ?_
            rw [hpe.out]
            rintro e y3 ⟨rfl, ky3⟩
            have Ey3 := Ey2.below ky3
            have hay3 := ((hdz2.below ky1).below ky2).below ky3
            have hby3 := (hby1'.below ky2).below ky3
            clear hr41 hr42
            go_wp2_with fail
            refine (pending_law _ _ _ _ _ hay3 okS Ey3.norm (by omega)).mono ?_
            rintro e x1 ⟨⟨a31, cap31, rfl, hr1⟩, kx1⟩
            have Ex1 := Ey3.below kx1
            have hb1 := hby3.below kx1
            go_wp2_with fail
            refine (pending_law _ _ _ _ _ hb1 okT Ex1.norm (by omega)).mono ?_
            rintro e x2 ⟨⟨a32, cap32, rfl, hr2⟩, kx2⟩
            have Ex2 := Ex1.below kx2
            go_wp2_with fail
            refine (sameInts_any _ _ _ _ _ _ _ (hr1.below kx2) hr2).mono ?_
            rw [hse.out]
            rintro e x3 ⟨rfl, kx3⟩
            have Ex3 := Ex2.below kx3
            have ha3 := ((hay3.below kx1).below kx2).below kx3
            have hb3 := (hb1.below kx2).below kx3
            go_wp2_with fail
            go_ret
            exact ⟨rfl, Ex3.bel⟩
end Go.Proofs.Ytlkebppmdbgdmaa
