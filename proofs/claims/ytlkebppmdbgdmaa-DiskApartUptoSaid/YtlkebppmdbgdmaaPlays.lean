/-
  The walk of DiskPlays.
-/
import Derived.Test.YtlkebppmdbgdmaaLooks
import Derived.Test.YtlkebppmdbgdmaaStops
namespace Go.Proofs.Ytlkebppmdbgdmaa
open Go.RowKit
set_option linter.unusedSimpArgs false
set_option linter.unusedVariables false

/-- an operation's five cells in whatever world the law is in, and its list -/
theorem Env.op5 {W w : World} {col : Nat → Nat} {g p : Nat} {o : OpD} (h : Env W col w) (hg : g < W.heap.size) (r : OpCells W (fun k => k < W.heap.size) g p o) :
    ∃ a cap, w.cell? ⟨g, p, none⟩ = some (.int .i64 o.kind) ∧ w.cell? ⟨g, p + 1, none⟩ = some (.int .i64 o.n) ∧ w.cell? ⟨g, p + 2, none⟩ = some (.int .u8 o.byte) ∧ w.cell? ⟨g, p + 3, none⟩ = some (.int .i64 o.more) ∧ w.cell? ⟨g, p + 4, none⟩ = some (.slice a o.keep.length cap) ∧
      RdAt w (Nil0 col) 1 (.slice a o.keep.length cap) o.keep.length (o.keep.map (Value.int .i64)) ∧ o.Fine := by
  obtain ⟨c0, c1, c2, c3, a, cap, c4, hr, hf⟩ := r
  exact ⟨a, cap, (h.bel.cell (p := ⟨g, p, none⟩) hg).trans c0, (h.bel.cell (p := ⟨g, p + 1, none⟩) hg).trans c1, (h.bel.cell (p := ⟨g, p + 2, none⟩) hg).trans c2, (h.bel.cell (p := ⟨g, p + 3, none⟩) hg).trans c3, (h.bel.cell (p := ⟨g, p + 4, none⟩) hg).trans c4, h.rd hr, hf⟩

set_option maxHeartbeats 4000000 in
theorem plays_any (W : World) (size count : Int) (v2 : Value) (l : List OpD) (h2 : OpsAt W (fun k => k < W.heap.size) v2 l ∧ l.length ≤ 1048576) :
    Calls Try.prog 8 #[.int .i64 size, .int .i64 count, v2] W fun e w' => e = .returned (.bool true) ∧ Below W.heap.size W w' := by
  obtain ⟨a2, cap2, rfl, hmax2⟩ := h2.1.shape
  obtain ⟨h2, hl2⟩ := h2
  unfold maxLen at hmax2
  cases hf : fitsD size count with
  | false =>
    have Hf := Lib.hid hf; clear hf
    go_enter Try.func8, Try.ntmps8
    go_wp2_with fail
    refine (lives_any _).mono ?_
    rintro e w1 ⟨rfl, k1⟩
    go_wp2_with fail
    refine (new_no _ _ _ Hf.out).mono ?_
    rintro e w2 ⟨rfl, rfl⟩
    go_wp2_with fail
    refine (refnew_no _ _ _ Hf.out).mono ?_
    rintro e w3 ⟨rfl, rfl⟩
    go_wp2
    go_ret
    exact ⟨rfl, k1⟩
  | true =>
    have ok0 := new_Ok hf
    obtain ⟨f0, f1, f2, f3⟩ := fits_bounds hf
    have Hf := Lib.hid hf; clear hf
    go_enter Try.func8, Try.ntmps8
    go_wp2_with fail
    refine (lives_any _).mono ?_
    rintro e w1 ⟨rfl, k1⟩
    have E1 := (Env.refl W).below k1
    go_wp2_with fail
    refine (new_ok _ _ _ Hf.out (fun _ => 0) 10).mono ?_
    rintro e w2 ⟨⟨b, col, rfl, hb, h5, x5, m5⟩, k5⟩
    have E2 : Env W col w2 := E1.step (c := 10) ⟨x5, Chg.of_below k5, m5⟩ (by omega)
    go_wp2_with fail
    refine (refnew_ok _ _ _ Hf.out col 20).mono ?_
    rintro e w3 ⟨⟨b2, col3, rfl, hb2, h6, x6, m6⟩, k6⟩
    have st3 : Step 20 col col3 w2 w3 := ⟨x6, Chg.of_below k6, m6⟩
    have E3 : Env W col3 w3 := E2.step st3 (by omega)
    have h5' := st3.other (by omega) (by omega) h5
    have hr3 : RefAt w3 col3 20 b2 (DS.new size count) := ⟨_, h6, rfl⟩
    clear h5 h6 x5 x6 st3 E1 E2 k5 k6
    go_wp2_with fail
    go_loopw [7, 11] (fun dv i wr => ∃ (k : Nat) (col : Nat → Nat) (c b : Nat) (s : DS), k ≤ l.length ∧ i = .int .i64 k ∧ dv = .pointer (some ⟨b, 0, none⟩) ∧ DiskAt wr 69 col c b s ∧ RefAt wr col 20 b2 s ∧ s.Ok ∧ Env W col wr ∧ Hid (s.size = size) ∧ s.pending.length ≤ k ∧ 1 < c ∧ (c + 2 < 20 ∨ 22 < c)) (fun _ i _ => l.length - (intOf i).toNat)
    case atStart => exact ⟨0, col3, 10, b, DS.new size count, by omega, rfl, rfl, h5', hr3, ok0, E3, rfl, by simp [DS.new], by omega, by omega⟩
    case round =>
      obtain ⟨k, col', c, b', s, hk, rfl, rfl, hd, hx, ok, E, hsz, hp, hc1, hc2⟩ := hrel
      by_cases hlt : k < l.length
      · obtain ⟨g, off, rfl, hg, _, hcs⟩ := h2.get (by omega)
        have hc := hcs k hlt
        obtain ⟨ka, kcap, c0, d1, d2, d3, d4, hkr, hfine⟩ := E.op5 hg hc
        generalize l[k] = o at *
        have i0 : (0 : Int) ≤ (k : Int) := by omega
        have i1 : (k : Int) < (l.length : Int) := by omega
        by_cases hk8 : o.kind = 8
        · have q8 : (o.kind == 8) = true := by simp [hk8]
          clear hk8
          have hplen := ok.plen
          obtain ⟨m0, m1⟩ := mul_bounds (a := s.size) (b := s.count) (by have := ok.size0; omega) ok.size1 (by have := ok.count0; omega) ok.count1
          have hpl : s.platter.length ≤ 1073741824 := by omega
          have hs0 : 0 < s.size := by have := ok.size0; omega
          clear hplen m0 m1
          go_wp2_with fail
          refine (fork_any _ _ _ _ _ hd hs0 (by omega) hpl (c + 30) (by omega)).mono ?_
          rintro e w4 ⟨⟨b4, col4, rfl, hb4, hd4, x4, m4⟩, k4⟩
          have st4 : Step (c + 30) col' col4 wr w4 := ⟨x4, Chg.of_below k4, m4⟩
          have E4 := E.step st4 (by omega)
          have ho4 := st4.other (by omega) (by omega) hd
          have hx4 := st4.refAt (by omega) (by omega) hx
          go_wp2_with fail
          refine (stop_law _ _ _ _ _ ho4 (by omega) ok E4.norm (-1)).mono ?_
          rintro e w5 ⟨rfl, col5, ho5, st5⟩
          have E5 := E4.step st5 (by omega)
          have hd5 := st5.other (by omega) (by omega) hd4
          have hx5 := st5.refAt (by omega) (by omega) hx4
          have ok5 : (s.stop (-1)).Ok := stop_Ok ok (by omega)
          go_wp2_with fail
          refine (filled_law _ _ E5.norm size 99 (by omega) (by omega)).mono ?_
          rintro e w6 ⟨⟨a6, cap6, rfl, hs6⟩, k6⟩
          have E6 := E5.below k6
          go_wp2_with fail
          refine (write_law _ _ _ _ _ _ _ _ (ho5.below k6) (by omega) ok5 E6.norm hs6.rd (by have := stop_pend s (-1); omega)).mono ?_
          rintro e w7 ⟨rfl, col7, ho7, st7⟩
          have E7 := E6.step st7 (by omega)
          have hd7 := st7.other (by omega) (by omega) (hd5.below k6)
          have hx7 := st7.refAt (by omega) (by omega) (hx5.below k6)
          have ok7 := wrote_Ok ok5 0 (filled size 99)
          have p7 := wrote_pend (s.stop (-1)) 0 (filled size 99)
          have p5 := stop_pend s (-1)
          generalize (s.stop (-1)).wrote 0 (filled size 99) = s7 at *
          go_wp2_with fail
          refine (flush_law _ _ _ _ _ ho7 (by omega) ok7 E7.norm (by omega)).mono ?_
          rintro e w8 ⟨rfl, col8, ho8, st8⟩
          have E8 := E7.step st8 (by omega)
          have hd8 := st8.other (by omega) (by omega) hd7
          have hx8 := st8.refAt (by omega) (by omega) hx7
          go_wp2_with fail
          go_roundw
          case rel => exact ⟨k + 1, col8, c + 30, b4, s, by omega, by go_num, rfl, hd8, hx8, ok, E8, hsz, by omega, by omega, by omega⟩
          case measure => simp [intOf]; omega
        · have q8 : (o.kind == 8) = false := by simp [hk8]
          clear hk8
          have p9 := stepS_pend s o
          have z9 := stepS_size s o
          have ok9 := stepS_Ok ok o hfine.1.2
          have Hz9 := Lib.hid z9
          clear z9
          have hst := Lib.hid (step_any wr col' c 20 b' b2 s o ka kcap hd hx ok E.norm (by omega) (by omega) (by omega) (by omega) hfine.2.1 hkr)
          unfold opv at hst
          go_wp2_with fail
          refine hst.out.mono ?_
          rintro e w4 ⟨rfl, col4, st4, hd4, hx4⟩
          have E4 := E.step2 st4 (by omega) (by omega)
          generalize stepS s o = s9 at *
          go_wp2_with fail
          go_roundw
          case rel => exact ⟨k + 1, col4, c, b', s9, by omega, by go_num, rfl, hd4, hx4, ok9, E4, Hz9.out.trans hsz.out, by omega, by omega, by omega⟩
          case measure => simp [intOf]; omega
      · obtain rfl : k = l.length := by omega
        go_wp2_with fail
        refine (looks_any _ _ c 20 _ _ s hd hx ok E.norm (by omega) (by omega) (by omega) (by omega)).mono ?_
        rintro e w4 ⟨rfl, col4, st4, hd4, hx4⟩
        have E4 := E.step2 st4 (by omega) (by omega)
        go_wp2
        go_ret
        exact ⟨rfl, E4.bel⟩
end Go.Proofs.Ytlkebppmdbgdmaa
