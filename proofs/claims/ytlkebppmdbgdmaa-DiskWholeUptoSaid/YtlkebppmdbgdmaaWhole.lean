/-
  The walk of DiskWhole.
-/
import Derived.Test.YtlkebppmdbgdmaaWholePlain
namespace Go.Proofs.Ytlkebppmdbgdmaa
open Go.RowKit
set_option linter.unusedSimpArgs false
set_option linter.unusedVariables false

set_option maxRecDepth 100000 in
set_option maxHeartbeats 8000000 in
theorem whole_any (W : World) (size count : Int) (v2 : Value) (l : List OpD) (h2 : OpsAt W (fun k => k < W.heap.size) v2 l ∧ l.length ≤ 1048576) (v3 : Value) (keep : List Int) (h3 : IntsAt W (fun k => k < W.heap.size) v3 keep) :
    Calls Try.prog 7 #[.int .i64 size, .int .i64 count, v2, v3] W fun e w' => e = .returned (.bool true) ∧ Below W.heap.size W w' := by
  obtain ⟨a2, cap2, rfl, hmax2⟩ := h2.1.shape
  obtain ⟨a3, cap3, rfl, hmax3⟩ := RdAt.shape h3
  obtain ⟨h2, hl2⟩ := h2
  obtain ⟨i0, hi, hz0, hz1, hz2⟩ := info_parts info57
  obtain ⟨j0, hj, jz0, jz1, jz2⟩ := info_parts info3
  unfold maxLen at hmax2 hmax3
  cases hf : fitsD size count with
  | false =>
    have Hf := Lib.hid hf; clear hf
    go_enter Try.func7, Try.ntmps7
    go_wp2_with fail
    refine (lives_any _).mono ?_
    rintro e w1 ⟨rfl, k1⟩
    go_wp2_with fail
    refine (new_no _ _ _ Hf.out).mono ?_
    rintro e w2 ⟨rfl, rfl⟩
    go_wp2
    go_ret
    exact ⟨rfl, k1⟩
  | true =>
    have ok0 := new_Ok hf
    obtain ⟨f0, f1, f2, f3⟩ := fits_bounds hf
    have Hf := Lib.hid hf; clear hf
    go_enter Try.func7, Try.ntmps7
    go_wp2_with fail
    refine (lives_any _).mono ?_
    rintro e w1 ⟨rfl, k1⟩
    have E1 := (Env.refl W).below k1
    go_wp2_with fail
    refine (new_ok _ _ _ Hf.out (fun _ => 0) 10).mono ?_
    rintro e w2 ⟨⟨b, col, rfl, hb, h5, x5, m5⟩, k5⟩
    have E2 : Env W col w2 := E1.step (c := 10) ⟨x5, Chg.of_below k5, m5⟩ (by omega)
    go_wp2_with fail
    go_loopw [11, 12] (fun v i wr => ∃ (k : Nat) (col : Nat → Nat) (s : DS), k ≤ l.length ∧ i = .int .i64 k ∧ DiskAt wr 69 col 10 b s ∧ s.Ok ∧ Env W col wr ∧ WrAt wr col v s.pending ∧ Hid (s.size = size ∧ s.count = count) ∧ Hid (s.alive = true ∧ s.stops = false) ∧ s.pending.length ≤ k) (fun _ i _ => l.length - (intOf i).toNat)
    case atStart => exact ⟨0, col, DS.new size count, by omega, rfl, h5, ok0, E2, WrAt.nil _ _, ⟨rfl, rfl⟩, ⟨rfl, rfl⟩, by simp [DS.new]⟩
    case round =>
      obtain ⟨k, col', s, hk, rfl, hd, ok, E, hw, hsz, hal, hp⟩ := hrel
      obtain ⟨av, capv, rfl⟩ := hw.shape
      by_cases hlt : k < l.length
      · obtain ⟨g, off, rfl, hg, _, hcs⟩ := h2.get (by omega)
        have hc := hcs k hlt
        obtain ⟨hby0, hby1⟩ := hc.byte
        obtain ⟨c0, c1, c2⟩ := E.op hg hc
        generalize l[k] = o at *
        clear hcs
        have i0' : (0 : Int) ≤ (k : Int) := by omega
        have i1' : (k : Int) < (l.length : Int) := by omega
        by_cases hk1 : o.kind = 1
        · have q1 : (o.kind == 1) = true := by simp [hk1]
          have q3 : (o.kind == 3) = false := by simp [hk1]
          clear hk1
          go_wp2_with fail
          refine (filled_law _ _ E.norm size o.byte (by omega) ⟨hby0, hby1⟩).mono ?_
          rintro e w6 ⟨⟨a6, cap6, rfl, hs6⟩, hb6⟩
          have E6 : Env W col' w6 := E.below hb6
          have hd6 := hd.below hb6
          have hw6 := hw.below E.norm hb6
          have c61 := (E6.op hg hc).2.1
          go_wp2_with fail
          refine (write_law _ _ _ _ _ _ _ _ hd6 (by omega) ok E6.norm hs6.rd (by omega)).mono ?_
          rintro e w7 ⟨rfl, col7, hd7, st7⟩
          have E7 := E6.step st7 (by omega)
          have c71 := (E7.op hg hc).2.1
          have hw7 := hw6.step st7 (by omega)
          have r7 := st7.rd (by omega) hs6.rd
          have p7 := wrote_pend s o.n (filled size o.byte)
          have ok7 := wrote_Ok ok o.n (filled size o.byte)
          clear st7 hd6 hw6 hs6 hw hd
          unfold DS.wcode
          cases hfit : s.fit o.n (filled size o.byte) with
          | false =>
            rw [writeBad hfit] at hd7
            have Hfit := Lib.hid hfit; clear hfit
            go_wp2_with fail
            go_roundw
            case rel => exact ⟨k + 1, col7, s, by omega, by go_num, hd7, ok, E7, hw7, hsz, hal, by omega⟩
            case measure => simp [intOf]; omega
          | true =>
            have ew : (s.wrote o.n (filled size o.byte)).pending = s.pending ++ [(o.n, filled size o.byte)] := by simp [DS.wrote, hfit, DS.write, hal.out.1]
            have ea : (s.wrote o.n (filled size o.byte)).alive = true ∧ (s.wrote o.n (filled size o.byte)).stops = false := by
              have := wrote_stops s o.n (filled size o.byte)
              rw [hal.out.2] at this
              exact ⟨by simp [DS.alive, this], this⟩
            have Ew := Lib.hid ew
            have Ea : Hid ((s.wrote o.n (filled size o.byte)).alive = true ∧ (s.wrote o.n (filled size o.byte)).stops = false) := ea
            have sz7 : Hid ((s.wrote o.n (filled size o.byte)).size = size ∧ (s.wrote o.n (filled size o.byte)).count = count) := ⟨(wrote_size _ _ _).trans hsz.out.1, (wrote_count _ _ _).trans hsz.out.2⟩
            clear ew ea hfit
            generalize s.wrote o.n (filled size o.byte) = s7 at *
            obtain ⟨qs7, hsl7, hpc7⟩ := hw7
            go_wp2_with (at_builtin; go_must (refine wpList_append_sl rfl _ _ 47 rfl 57 i0 (.agg #[.int .i64 0, .slice none 0 0]) 2 32 Try.underlying47 hi hz0 hz1 hz2 rfl (fun k => col7 k = 5) _ s.pending.length qs7 rfl ?_ (fun k => k = w7.heap.size) _ 1 [.int .i64 o.n, .slice a6 (filled size o.byte).length cap6] rfl ?_ ?_ ?_ ?_ ?_); exact hsl7.below ((Below.refl _ _).alloc (Nat.le_refl _) _); exact rd_new _ _ _ _ _ rfl (by unfold maxLen; omega); simp [Value.oneCell']; (unfold maxLen; omega); omega; intro v8 w8 hs8 hc8)
            obtain ⟨col8, hw8, st8⟩ := wr_end E7.norm hpc7 r7 hs8 hc8
            have E8 := E7.step st8 (by omega)
            have hd8 := st8.other (by omega) (by omega) hd7
            rw [← Ew.out] at hw8
            go_wp2_with fail
            go_roundw
            case rel => exact ⟨k + 1, col8, s7, by omega, by go_num, hd8, ok7, E8, hw8, sz7, Ea, by omega⟩
            case measure => simp [intOf]; omega
        · have q1 : (o.kind == 1) = false := by simp [hk1]
          by_cases hk3 : o.kind = 3
          · have q3 : (o.kind == 3) = true := by simp [hk3]
            clear hk1 hk3
            have fp : s.flush.pending = [] := by simp [DS.flush, hal.out.1]
            have fa : Hid (s.flush.alive = true ∧ s.flush.stops = false) := by
              have := flush_stops s
              rw [hal.out.2] at this
              exact ⟨by simp [DS.alive, this], this⟩
            have Fp := Lib.hid fp
            have sz7 : Hid (s.flush.size = size ∧ s.flush.count = count) := ⟨(flush_size _).trans hsz.out.1, (flush_count _).trans hsz.out.2⟩
            have ok7 := flush_Ok ok
            clear fp
            have fl := flush_law wr col' 10 b s hd (by omega) ok E.norm (by omega)
            generalize s.flush = s7 at *
            go_wp2_with fail
            refine fl.mono ?_
            rintro e w7 ⟨rfl, col7, hd7, st7⟩
            have E7 := E.step st7 (by omega)
            go_wp2_with fail
            go_roundw
            case rel => exact ⟨k + 1, col7, s7, by omega, by go_num, hd7, ok7, E7, by rw [Fp.out]; exact WrAt.nil _ _, sz7, fa, by rw [Fp.out]; simp⟩
            case measure => simp [intOf]; omega
          · have q3 : (o.kind == 3) = false := by simp [hk3]
            clear hk1 hk3
            go_wp2_with fail
            go_roundw
            case rel => exact ⟨k + 1, col', s, by omega, by go_num, hd, ok, E, hw, hsz, hal, by omega⟩
            case measure => simp [intOf]; omega
      · obtain rfl : k = l.length := by omega
        have hmul : IntKind.i64.wrap (size * count) = (s.platter.length : Int) := by
          obtain ⟨m0, m1⟩ := mul_bounds (a := size) (b := count) (by omega) f1 (by omega) f3
          rw [IntWalk.i64_in _ (by omega), ok.plen, hsz.out.1, hsz.out.2]
        have hmulne : ((s.platter.length : Int) != (s.platter.length : Int)) = false := by simp
        have hpe : Hid ((s.platter == s.platter) = true) := by show _ = _; simp
        have hnl : ((s.sectors.length : Int) != (s.pending.length : Int)) = false := by simp [DS.sectors]
        have hne : ((s.pending.length : Int) != (s.pending.length : Int)) = false := by simp
        go_wp2_with fail
        refine (image_law _ _ _ _ _ hd ok E.norm).mono ?_
        rintro e w3 ⟨⟨a14, cap14, rfl, hs14⟩, k3⟩
        have E3 := E.below k3
        have d3 := hd.below k3
        have wr3 := hw.below E.norm k3
        have im3 := hs14.rd
        clear hs14 hd hw
        go_wp2_with fail
        refine (fork_law _ _ _ _ _ d3 ok (by omega) 20 (by omega)).mono ?_
        rintro e w4 ⟨ba, col4, rfl, a4, st4⟩
        have E4 := E3.step st4 (by omega)
        have d4 := st4.other (by omega) (by omega) d3
        have wr4 := wr3.step st4 (by omega)
        have im4 := st4.rd (by omega) im3
        clear st4
        go_wp2_with fail
        refine (fork_law _ _ _ _ _ d4 ok (by omega) 30 (by omega)).mono ?_
        rintro e w5 ⟨bb, col5', rfl, b5, st5⟩
        have E5 := E4.step st5 (by omega)
        have d5 := st5.other (by omega) (by omega) d4
        have a5 := st5.other (by omega) (by omega) a4
        have wr5 := wr4.step st5 (by omega)
        have im5 := st5.rd (by omega) im4
        clear st5
        go_wp2_with fail
        refine (fork_law _ _ _ _ _ d5 ok (by omega) 40 (by omega)).mono ?_
        rintro e w6 ⟨bc, col6, rfl, c6, st6⟩
        have E6 := E5.step st6 (by omega)
        have d6 := st6.other (by omega) (by omega) d5
        have a6 := st6.other (by omega) (by omega) a5
        have b6 := st6.other (by omega) (by omega) b5
        have wr6 := wr5.step st6 (by omega)
        have im6 := st6.rd (by omega) im5
        clear st6 wr3 wr4 wr5 im3 im4 im5 d3 d4 d5 a4 a5 b5 E3 E4 E5
        go_wp2_with fail
        refine (pending_law _ _ _ _ _ d6 ok E6.norm (by omega)).mono ?_
        rintro e w7 ⟨⟨a31, cap31, rfl, hr1⟩, kx1⟩
        have E7 := E6.below kx1
        have d7 := d6.below kx1
        have a7 := a6.below kx1
        have b7 := b6.below kx1
        have c7 := c6.below kx1
        have wr7 := wr6.below E6.norm kx1
        have im7 := im6.below kx1
        clear hr1 wr6 im6 d6 a6 b6 c6 E6
        go_wp2_with fail
        go_loopw [18, 19] (fun v i wr => ∃ k : Nat, k ≤ s.pending.length ∧ i = .int .i64 k ∧ SlAt wr (fun j => w7.heap.size ≤ j) 3 1 v k ((allInts k).map (Value.int .i64)) ∧ Below w7.heap.size w7 wr) (fun _ i _ => s.pending.length - (intOf i).toNat)
        case atStart => exact ⟨0, by omega, rfl, by simpa [allInts] using SlAt.nil _ _ _ _ _, Below.refl _ _⟩
        case round =>
          obtain ⟨k, hk, rfl, hsl, hbw⟩ := hrel
          by_cases hlt : k < s.pending.length
          · obtain ⟨av', capv', rfl⟩ := hsl.shape
            have hszw := hbw.size
            go_wp2_with (at_builtin; go_must (refine wpList_append_sl rfl _ _ 23 rfl 3 j0 (.int .i64 0) 1 8 Try.underlying23 hj jz0 jz1 jz2 rfl (fun j => w7.heap.size ≤ j) _ k ((allInts k).map (Value.int .i64)) rfl ?_ (fun j => j = wr.heap.size) _ 1 [.int .i64 (k : Int)] rfl ?_ ?_ ?_ ?_ ?_); exact hsl.below ((Below.refl _ _).alloc (Nat.le_refl _) _); exact rd_newG (by simp) rfl (by unfold maxLen; omega); simp [Value.oneCell']; (unfold maxLen; omega); omega; intro v' w' hs' hc')
            go_roundw
            case rel =>
              refine ⟨k + 1, by omega, by go_num, ?_, hbw.trans (((Chg.refl (fun j => w7.heap.size ≤ j) wr).alloc _).trans hc' |>.below hszw (fun i hi e => by omega))⟩
              rw [allInts_succ, List.map_append]
              exact slAt_upto hs' (by simp; omega)
            case measure => simp [intOf]; omega
          · obtain rfl : k = s.pending.length := by omega
            obtain ⟨av', capv', rfl⟩ := hsl.shape
            have hal' : (allInts s.pending.length).length = s.pending.length := by simp [allInts]
            have E8 := E7.below hbw
            have d8 := d7.below hbw
            have a8 := a7.below hbw
            have b8 := b7.below hbw
            have c8 := c7.below hbw
            have wr8 := wr7.below E7.norm hbw
            have im8 := im7.below hbw
            have al8 : RdAt wr (Nil0 col6) 1 (.slice av' (allInts s.pending.length).length capv') (allInts s.pending.length).length ((allInts s.pending.length).map (Value.int .i64)) := by
              rw [hal']; exact fresh_rd E7.norm hsl.rd
            rw [hal'] at al8
            have Hal' := Lib.hid hal'
            clear hal' E7 d7 a7 b7 c7 wr7 im7 hsl
            have hnil : ∀ (W' : World) (cl : Nat → Nat), RdAt W' (Nil0 cl) 1 (.slice none 0 0) ([] : List Int).length (([] : List Int).map (Value.int .i64)) := fun W' cl => (SlAt.nil _ _ 3 _ _).rd
            go_wp2_with fail
            refine (crash_law _ _ _ _ _ _ (allInts s.pending.length) a8 (by omega) ok E8.norm (by omega) (by rw [Hal'.out]; exact al8)).mono ?_
            rintro e w9 h9
            rcases h9 with ⟨_, rfl, col9, a9, st9⟩ | ⟨hk9, _, _⟩
            case inr => exact absurd (allInts_ok _) hk9
            have E9 := E8.step st9 (by omega)
            have d9 := st9.other (by omega) (by omega) d8
            have b9 := st9.other (by omega) (by omega) b8
            have c9 := st9.other (by omega) (by omega) c8
            have wr9 := wr8.step st9 (by omega)
            have im9 := st9.rd (by omega) im8
            clear st9 d8 a8 b8 c8 wr8 im8 al8 E8
            go_wp2_with fail
            refine (crash_law _ _ _ _ _ _ [] b9 (by omega) ok E9.norm (by omega) (hnil _ _)).mono ?_
            rintro e w10 h10
            rcases h10 with ⟨hkb, rfl, col10, b10, st10⟩ | ⟨hk10, _, _⟩
            case inr => exact absurd (keepOk_nil _) hk10
            have E10 := E9.step st10 (by omega)
            have d10 := st10.other (by omega) (by omega) d9
            have a10 := st10.other (by omega) (by omega) a9
            have c10 := st10.other (by omega) (by omega) c9
            have wr10 := wr9.step st10 (by omega)
            have im10 := st10.rd (by omega) im9
            have okB := crash_Ok ok hkb
            have plB : (s.crash []).platter = s.platter := by rw [crash_nil]
            clear st10 d9 a9 b9 c9 wr9 im9 E9
            go_wp2_with fail
            refine (image_law _ _ _ _ _ b10 okB E10.norm).mono ?_
            rw [plB]
            rintro e w11 ⟨⟨a41, cap41, rfl, hr41⟩, k11⟩
            have E11 := E10.below k11
            have d11 := d10.below k11
            have a11 := a10.below k11
            have c11 := c10.below k11
            have wr11 := wr10.below E10.norm k11
            have im11 := im10.below k11
            clear d10 a10 b10 c10 wr10 im10 E10
            go_wp2_with fail
            refine (sameBytes_any _ _ _ _ _ _ _ hr41.rd im11).mono ?_
            rw [hpe.out]
            rintro e w12 ⟨rfl, k12⟩
            have E12 := E11.below k12
            have d12 := d11.below k12
            have a12 := a11.below k12
            have c12 := c11.below k12
            have wr12 := wr11.below E11.norm k12
            have im12 := im11.below k12
            clear d11 a11 c11 wr11 im11 E11 hr41
            go_wp2_with fail
            refine (flush_law _ _ _ _ _ c12 (by omega) ok E12.norm (by omega)).mono ?_
            rintro e w13 ⟨rfl, col13, c13, st13⟩
            have E13 := E12.step st13 (by omega)
            have d13 := st13.other (by omega) (by omega) d12
            have a13 := st13.other (by omega) (by omega) a12
            have wr13 := wr12.step st13 (by omega)
            have im13 := st13.rd (by omega) im12
            have okA := crash_Ok ok (allInts_ok s.pending.length)
            have okC := flush_Ok ok
            have plA := Lib.hid (crash_all s hal.out.1)
            clear st13 d12 a12 c12 wr12 im12 E12
            go_wp2_with fail
            refine (image_law _ _ _ _ _ a13 okA E13.norm).mono ?_
            rw [plA.out]
            rintro e w14 ⟨⟨a42, cap42, rfl, hr42⟩, k14⟩
            have E14 := E13.below k14
            have d14 := d13.below k14
            have c14 := c13.below k14
            have wr14 := wr13.below E13.norm k14
            have im14 := im13.below k14
            clear d13 a13 c13 wr13 im13 E13
            go_wp2_with fail
            refine (image_law _ _ _ _ _ c14 okC E14.norm).mono ?_
            rintro e w15 ⟨⟨a43, cap43, rfl, hr43⟩, k15⟩
            have E15 := E14.below k15
            have d15 := d14.below k15
            have wr15 := wr14.below E14.norm k15
            have im15 := im14.below k15
            have hpf : Hid ((s.flush.platter == s.flush.platter) = true) := by show _ = _; simp
            clear d14 c14 wr14 im14 E14
            go_wp2_with fail
            refine (sameBytes_any _ _ _ _ _ _ _ (hr42.rd.below k15) hr43.rd).mono ?_
            rw [hpf.out]
            rintro e w16 ⟨rfl, k16⟩
            have E16 := E15.below k16
            have d16 := d15.below k16
            have wr16 := wr15.below E15.norm k16
            have im16 := im15.below k16
            clear d15 wr15 im15 E15 hr42 hr43
            go_wp2_with fail
            refine (crash_law _ _ _ _ _ _ keep d16 (by omega) ok E16.norm (by omega) (E16.rd h3)).mono ?_
            rintro e w17 h17
            rcases h17 with ⟨hkd, rfl, col17, d17, st17⟩ | ⟨_, rfl, col17, d17, st17⟩
            · have E17 := E16.step st17 (by omega)
              have wr17 := wr16.step st17 (by omega)
              have im17 := st17.rd (by omega) im16
              clear st17 d16 wr16 im16 E16
              have okD := crash_Ok ok hkd
              have okc := fun (m : Int) (h0 : 0 ≤ m) (h1 : m < s.count) => okTo_crash ok hkd h0 h1
              have zD : Hid ((s.crash keep).size = size ∧ (s.crash keep).count = count) := hsz
              have pD : Hid ((s.crash keep).pending = []) := rfl
              have hplen := ok.plen
              have hpos : 0 < s.platter.length := by
                have h1 := ok.size0
                have h2 := ok.count0
                have := Int.mul_le_mul_of_nonneg_left h2 (show 0 ≤ s.size by omega)
                omega
              obtain ⟨g14, o14, rfl, _, _, hjunk⟩ := im17.get hpos
              clear hjunk
              have hcap14 : s.platter.length ≤ cap14 ∧ cap14 ≤ maxLen := by
                obtain ⟨_, a', cap', e, q1, q2, _⟩ := im17
                injection e with e1 _ e3
                subst e3
                exact ⟨q1, q2⟩
              have Hplen := Lib.hid (show (s.platter.length : Int) = size * count by rw [hplen, hsz.out.1, hsz.out.2])
              have hzb := Lib.hid (show s.size = size from hsz.out.1)
              have hnb := Lib.hid (show s.count = count from hsz.out.2)
              clear hplen hmul hmulne hnl hne
              generalize hC : s.crash keep = C at *
              have HC := Lib.hid hC
              clear hC
              go_wp2_with fail
              go_loopw [20] (fun i wr => ∃ (n : Nat) (s' : DS), (n : Int) ≤ count ∧ i = .int .i64 n ∧ DiskAt wr 69 col17 10 b s' ∧ s'.Ok ∧ Hid (s'.size = size ∧ s'.count = count) ∧ Hid (s'.pending = [] ∧ s'.platter = C.platter) ∧ Env W col17 wr ∧ WrAt wr col17 (.slice av s.pending.length capv) s.pending ∧ RdAt wr (Nil0 col17) 1 (.slice (some ⟨g14, o14, none⟩) s.platter.length cap14) s.platter.length (bcells s.platter)) (fun i _ => count.toNat - (intOf i).toNat)
              case atStart => exact ⟨0, C, by omega, rfl, d17, okD, zD, ⟨pD.out, rfl⟩, E17, wr17, im17⟩
              case round =>
                obtain ⟨n, s', hn, rfl, hd, ok', hsz', hpp, E, hwr, him⟩ := hrel
                by_cases hlt : (n : Int) < count
                · have hL : s'.sector n = C.base n := by
                    unfold DS.sector
                    rw [hpp.out.1]
                    simp only [List.foldl_nil, DS.base, hpp.out.2, hsz'.out.1, zD.out.1]
                  have rl := read_law wr col17 10 b s' n hd (by omega) ok' E.norm (by rw [hpp.out.1]; simp) (by omega) (by rw [hsz'.out.2]; exact hlt)
                  rw [hL] at rl
                  have okn := Lib.hid (okc n (by omega) (by rw [hnb.out]; exact hlt))
                  have okz := Lib.hid (okTo_zero s n (C.base n))
                  have oksu := fun i h => Lib.hid (okTo_succ s n (C.base n) i h)
                  generalize C.base n = L at *
                  obtain ⟨m0, m1⟩ := mul_bounds (a := (n : Int)) (b := size) (by omega) (by omega) (by omega) f1
                  have hlt2 : n * size + size ≤ size * count := by
                    have := Int.mul_le_mul_of_nonneg_right (show (n : Int) + 1 ≤ count by omega) (show 0 ≤ size by omega)
                    rw [Int.add_mul, Int.one_mul, Int.mul_comm count] at this
                    exact this
                  have hmul : ((n : Int) + 1) * size = n * size + size := by rw [Int.add_mul, Int.one_mul]
                  have q1 : IntKind.i64.wrap (n * size) = n * size := IntWalk.i64_in _ (by omega)
                  have q2 : IntKind.i64.wrap ((n : Int) + 1) = n + 1 := IntWalk.i64_in _ (by omega)
                  have q3 : IntKind.i64.wrap (((n : Int) + 1) * size) = n * size + size := by rw [hmul]; exact IntWalk.i64_in _ (by omega)
                  have b1 : 0 ≤ n * size + size := by omega
                  have b2 : n * size ≤ n * size + size := by omega
                  have b3 : n * size + size ≤ (cap14 : Int) := by have := Hplen.out; omega
                  have b4 : n * size + size ≤ (s.platter.length : Int) := by have := Hplen.out; omega
                  have hpart := rd_part him hpos (n * size).toNat ((n * size + size).toNat - (n * size).toNat) (by omega)
                  have ebase : (s.platter.drop (n * size).toNat).take ((n * size + size).toNat - (n * size).toNat) = s.base n := by
                    simp only [DS.base, hzb.out]
                    congr 1; omega
                  have hlb : (s.base n).length = (n * size + size).toNat - (n * size).toNat := by
                    rw [← ebase]; simp; omega
                  rw [ebase] at hpart
                  have Hlb := Lib.hid hlb
                  clear hmul hL ebase hlb
                  go_wp2_with fail
                  refine rl.mono ?_
                  clear rl
                  rintro e w18 ⟨⟨a50, cap50, rfl, hr50⟩, hd18, st18⟩
                  have E18 := E.step st18 (by omega)
                  have hwr18 := hwr.step st18 (by omega)
                  have him18 := st18.rd (by omega) him
                  have hpart18 := st18.rd (by omega) hpart
                  clear hd hwr him hpart E st18
                  go_wp2_with fail
                  refine (sameBytes_any _ _ _ _ _ L (s.base n) hr50 hpart18).mono ?_
                  rw [← okz.out]
                  rintro e w19 ⟨rfl, k19⟩
                  have E19 := E18.below k19
                  have hwr19 := hwr18.below E18.norm k19
                  have him19 := him18.below k19
                  have hd19 := hd18.below k19
                  have hr19 := hr50.below k19
                  clear hd18 hwr18 him18 hpart18 hr50 E18
                  go_wp2_with fail
                  go_loopw [23, 24] (fun v i wq => ∃ j : Nat, j ≤ s.pending.length ∧ v = .bool (okTo s n L j) ∧ i = .int .i64 j ∧ Below w19.heap.size w19 wq) (fun _ i _ => s.pending.length - (intOf i).toNat)
                  case atStart => exact ⟨0, by omega, rfl, rfl, Below.refl _ _⟩
                  case round =>
                    obtain ⟨j, hj', rfl, rfl, hbq⟩ := hrel
                    by_cases hltj : j < s.pending.length
                    · have hsu := oksu j hltj
                      cases hb : okTo s n L j with
                      | true =>
                        have hnx : Hid (okTo s n L (j + 1) = true) := by show _ = _; rw [hsu.out, hb]; rfl
                        clear hsu hb
                        go_wp2_with fail
                        go_roundw
                        case rel => exact ⟨j + 1, by omega, by rw [hnx.out], by go_num, hbq⟩
                        case measure => simp [intOf]; omega
                      | false =>
                        obtain ⟨qs, hsl, hpc⟩ := hwr19.below E19.norm hbq
                        obtain ⟨a60, n60, cap60, e1, e2, e3⟩ := PendC.get hpc j hltj
                        obtain ⟨g60, o60, rfl, _, _, hcells⟩ := hsl.rd.get (by omega)
                        have x1 := hcells _ _ e1
                        have x2 := hcells _ _ e2
                        have x2' : World.cell? _ ⟨g60, o60 + j * 2 + 1, none⟩ = some (.slice a60 n60 cap60) := x2
                        have j0' : (0 : Int) ≤ (j : Int) := by omega
                        have j1' : (j : Int) < (s.pending.length : Int) := by omega
                        obtain ⟨p, hp⟩ : ∃ p, p = s.pending[j] := ⟨_, rfl⟩
                        rw [← hp] at x1 e3 hsu
                        clear hcells e1 e2 x2 hp hsl hpc
                        by_cases he : p.1 = n
                        · have he' : (p.1 == (n : Int)) = true := by simp [he]
                          have hnx : Hid (okTo s n L (j + 1) = (L == p.2)) := by show _ = _; rw [hsu.out, hb, he']; simp
                          clear hsu hb he
                          go_wp2_with fail
                          refine (sameBytes_any _ _ _ _ _ L p.2 (hr19.below hbq) e3).mono ?_
                          rintro e w21 ⟨rfl, k21⟩
                          go_wp2_with fail
                          go_roundw
                          case rel => exact ⟨j + 1, by omega, by rw [hnx.out], by go_num, below_grow hbq (Nat.le_refl _) k21⟩
                          case measure => simp [intOf]; omega
                        · have he' : (p.1 == (n : Int)) = false := by simp [he]
                          have hnx : Hid (okTo s n L (j + 1) = false) := by show _ = _; rw [hsu.out, hb, he']; simp
                          clear hsu hb he
                          go_wp2_with fail
                          go_roundw
                          case rel => exact ⟨j + 1, by omega, by rw [hnx.out], by go_num, hbq⟩
                          case measure => simp [intOf]; omega
                    · obtain rfl : j = s.pending.length := by omega
                      rw [okn.out]
                      go_wp2_with fail
                      go_roundw
                      case rel => exact ⟨n + 1, s'.read, by omega, by go_num, hd19.below hbq, read_Ok ok', hsz', hpp, E19.below hbq, hwr19.below E19.norm hbq, him19.below hbq⟩
                      case measure => simp [intOf]; omega
                · have hlt' : ¬ (n : Int) < count := hlt
                  go_wp2_with fail
                  go_ret
                  exact ⟨rfl, E.bel⟩
            · have E17 := E16.step st17 (by omega)
              have im17 := st17.rd (by omega) im16
              clear st17 d16 wr16 im16 E16
              go_wp2_with fail
              refine (image_law _ _ _ _ _ d17 ok E17.norm).mono ?_
              rintro e w18 ⟨⟨a44, cap44, rfl, hr44⟩, k18⟩
              have E18 := E17.below k18
              have d18 := d17.below k18
              have im18 := im17.below k18
              go_wp2_with fail
              refine (sameBytes_any _ _ _ _ _ _ _ hr44.rd im18).mono ?_
              rw [hpe.out]
              rintro e w19 ⟨rfl, k19⟩
              have E19 := E18.below k19
              have d19 := d18.below k19
              have hpl2 : ((s.sectors.length : Int) == (s.pending.length : Int)) = true := by simp [DS.sectors]
              go_wp2_with fail
              refine (pending_law _ _ _ _ _ d19 ok E19.norm (by omega)).mono ?_
              rintro e w20 ⟨⟨a45, cap45, rfl, hr45⟩, k20⟩
              go_wp2_with fail
              go_ret
              exact ⟨rfl, (E19.below k20).bel⟩
end Go.Proofs.Ytlkebppmdbgdmaa
