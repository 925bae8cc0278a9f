/-
  The walk of DiskRepeats.
-/
import Derived.Test.YtlkebppmdbgdmaaLaw
namespace Go.Proofs.Ytlkebppmdbgdmaa
open Go.RowKit
set_option linter.unusedSimpArgs false
set_option linter.unusedVariables false

theorem nm13 : (Try.f13.name == "runtime.NumGoroutine") = false := by kernel_rfl
theorem bd13 : Try.f13.body.isNone = false := by kernel_rfl
theorem nm14 : (Try.f14.name == "runtime.NumGoroutine") = false := by kernel_rfl
theorem bd14 : Try.f14.body.isNone = false := by kernel_rfl

theorem OpCells.byte {w : World} {own : Nat → Prop} {g p : Nat} {o : OpD} (r : OpCells w own g p o) : 0 ≤ o.byte ∧ o.byte < 256 := by
  obtain ⟨_, _, _, _, _, _, _, _, _, h, _⟩ := r
  exact h
/-- an operation's cells in whatever world the law is in -/
theorem Env.op {W w : World} {col : Nat → Nat} {own : Nat → Prop} {g p : Nat} {o : OpD} (h : Env W col w) (hg : g < W.heap.size) (r : OpCells W own g p o) :
    w.cell? ⟨g, p, none⟩ = some (.int .i64 o.kind) ∧ w.cell? ⟨g, p + 1, none⟩ = some (.int .i64 o.n) ∧ w.cell? ⟨g, p + 2, none⟩ = some (.int .u8 o.byte) := by
  obtain ⟨c0, c1, c2, _⟩ := r
  exact ⟨(h.bel.cell (p := ⟨g, p, none⟩) hg).trans c0, (h.bel.cell (p := ⟨g, p + 1, none⟩) hg).trans c1, (h.bel.cell (p := ⟨g, p + 2, none⟩) hg).trans c2⟩

theorem quiet_platter (S : DS) : (S.crash []).flush.platter = S.platter := by rw [crash_nil]; simp [DS.flush, DS.alive]
theorem quiet_pend (S : DS) : (S.crash []).pending = [] := by rw [crash_nil]
theorem quiet_size (S : DS) : (S.crash []).flush.size = S.size ∧ (S.crash []).flush.count = S.count := by rw [flush_size, flush_count]; exact ⟨rfl, rfl⟩

set_option maxHeartbeats 4000000 in
theorem repeats_any (W : World) (size count : Int) (v2 : Value) (l : List OpD) (h2 : OpsAt W (fun k => k < W.heap.size) v2 l ∧ l.length ≤ 1048576) (v3 : Value) (keep : List Int) (h3 : IntsAt W (fun k => k < W.heap.size) v3 keep) (v4 : Value) (more : List Int) (h4 : IntsAt W (fun k => k < W.heap.size) v4 more) :
    Calls Try.prog 4 #[.int .i64 size, .int .i64 count, v2, v3, v4] W fun e w' => e = .returned (.bool true) ∧ Below W.heap.size W w' := by
  obtain ⟨a2, cap2, rfl, hmax2⟩ := h2.1.shape
  obtain ⟨a3, cap3, rfl, hmax3⟩ := RdAt.shape h3
  obtain ⟨a4, cap4, rfl, hmax4⟩ := RdAt.shape h4
  obtain ⟨h2, hl2⟩ := h2
  unfold maxLen at hmax2 hmax3 hmax4
  cases hf : fitsD size count with
  | false =>
    have Hf := Lib.hid hf; clear hf
    go_enter Try.func4, Try.ntmps4
    go_wp2_with fail
    refine (lives_any _).mono ?_
    rintro e w1 ⟨rfl, k1⟩
    go_wp2_with fail
    refine (new_no _ _ _ Hf.out).mono ?_
    rintro e w2 ⟨rfl, rfl⟩
    go_wp2
    go_ret
    exact ⟨rfl, k1⟩
  | true =>
    have ok0 := new_Ok hf
    obtain ⟨f0, f1, f2, f3⟩ := fits_bounds hf
    have Hf := Lib.hid hf; clear hf
    go_enter Try.func4, Try.ntmps4
    go_wp2_with fail
    refine (lives_any _).mono ?_
    rintro e w1 ⟨rfl, k1⟩
    have E1 := (Env.refl W).below k1
    go_wp2_with fail
    refine (new_ok _ _ _ Hf.out (fun _ => 0) 10).mono ?_
    rintro e w2 ⟨⟨b, col, rfl, hb, h5, x5, m5⟩, k5⟩
    have E2 : Env W col w2 := E1.step (c := 10) ⟨x5, Chg.of_below k5, m5⟩ (by omega)
    go_wp2_with fail
    go_loopw [13] (fun i wr => ∃ (k : Nat) (col : Nat → Nat) (s : DS), k ≤ l.length ∧ i = .int .i64 k ∧ DiskAt wr 69 col 10 b s ∧ s.Ok ∧ Env W col wr ∧ Hid (s.size = size ∧ s.count = count) ∧ s.pending.length ≤ k) (fun i _ => l.length - (intOf i).toNat)
    case atStart => exact ⟨0, col, DS.new size count, by omega, rfl, h5, ok0, E2, ⟨rfl, rfl⟩, by simp [DS.new]⟩
    case round =>
      obtain ⟨k, col', s, hk, rfl, hd, ok, E, hsz, hp⟩ := hrel
      by_cases hlt : k < l.length
      · obtain ⟨g, off, rfl, hg, _, hcs⟩ := h2.get (by omega)
        have hc := hcs k hlt
        obtain ⟨hby0, hby1⟩ := hc.byte
        obtain ⟨c0, c1, c2⟩ := E.op hg hc
        generalize l[k] = o at *
        have i0 : (0 : Int) ≤ (k : Int) := by omega
        have i1 : (k : Int) < (l.length : Int) := by omega
        by_cases hk1 : o.kind = 1
        · have q1 : (o.kind == 1) = true := by simp [hk1]
          have q3 : (o.kind == 3) = false := by simp [hk1]
          clear hk1
          go_wp2
          go_region_law (first | (refine step_call_fn rfl 13 Try.f13 _ _ rfl Try.func13 nm13 bd13 #[.int .i64 size, .int .u8 o.byte] ?_ ?_; go_must (simp [Act.eval, Act.put]); go_must (refine (filled_law wr.drew col' (show Norm wr.drew col' from E.norm) size o.byte (by omega) ⟨hby0, hby1⟩).mono ?_); go_must (rintro e w6 ⟨⟨a6, cap6, rfl, hs6⟩, hb6⟩); (have E6 : Env W col' w6 := E.below (below_undrew hb6)); (have c61 := (E6.op hg hc).2.1); (have c62 := (E6.op hg hc).2.2); go_must (refine ⟨_, rfl, ?_⟩)) | (refine step_call_fn rfl 14 Try.f14 _ _ rfl Try.func14 nm14 bd14 #[.pointer (some ⟨b, 0, none⟩), .int .i64 o.n, .slice a6 (filled size o.byte).length cap6] ?_ ?_; go_must (simp [Act.eval, Act.put]); go_must (refine (write_law _ _ _ _ _ _ _ _ (hd.below (below_undrew hb6)) (by omega) ok (E.norm.grow (below_undrew hb6).size) hs6.rd (by omega)).mono ?_); go_must (rintro e w7 ⟨rfl, hw7⟩); go_must (refine ⟨_, rfl, ?_⟩)))
          all_goals
            obtain ⟨col7, hd7, st7⟩ := hw7
            have E7 := E6.step st7 (by omega)
            have c70 := (E7.op hg hc).1
            have z7 := wrote_size s o.n (filled size o.byte)
            have n7 := wrote_count s o.n (filled size o.byte)
            have p7 := wrote_pend s o.n (filled size o.byte)
            have ok7 := wrote_Ok ok o.n (filled size o.byte)
            generalize s.wrote o.n (filled size o.byte) = s7 at *
            have Hz7 := Lib.hid z7; have Hn7 := Lib.hid n7
            clear z7 n7
          all_goals go_wp2
          all_goals go_roundw
          all_goals first | (case rel => exact ⟨k + 1, col7, s7, by omega, by go_num, hd7, ok7, E7, ⟨Hz7.out.trans hsz.out.1, Hn7.out.trans hsz.out.2⟩, by omega⟩) | (case measure => simp [intOf]; omega)
        · have q1 : (o.kind == 1) = false := by simp [hk1]
          by_cases hk3 : o.kind = 3
          · have q3 : (o.kind == 3) = true := by simp [hk3]
            clear hk1 hk3
            go_wp2_with (go_at_call 15; refine (flush_law _ _ _ _ _ hd (by omega) ok E.norm (by omega)).mono ?_; rintro e w7 ⟨rfl, ⟨col7, hd7, st7⟩⟩)
            have E7 := E.step st7 (by omega)
            have z7 := flush_size s
            have n7 := flush_count s
            have p7 := flush_pend s
            have ok7 := flush_Ok ok
            generalize s.flush = s7 at *
            have Hz7 := Lib.hid z7; have Hn7 := Lib.hid n7
            clear z7 n7
            go_roundw
            case rel => exact ⟨k + 1, col7, s7, by omega, by go_num, hd7, ok7, E7, ⟨Hz7.out.trans hsz.out.1, Hn7.out.trans hsz.out.2⟩, by omega⟩
            case measure => simp [intOf]; omega
          · have q3 : (o.kind == 3) = false := by simp [hk3]
            clear hk1 hk3
            go_wp2
            go_roundw
            case rel => exact ⟨k + 1, col', s, by omega, by go_num, hd, ok, E, hsz, by omega⟩
            case measure => simp [intOf]; omega
      · obtain rfl : k = l.length := by omega
        have hnil : ∀ (W' : World) (cl : Nat → Nat), RdAt W' (Nil0 cl) 1 (.slice none 0 0) ([] : List Int).length (([] : List Int).map (Value.int .i64)) := fun W' cl => (SlAt.nil _ _ 3 _ _).rd
        go_wp2_with fail
        refine (crash_law _ _ _ _ _ _ keep hd (by omega) ok E.norm (by omega) (E.rd h3)).mono ?_
        rintro e w8 h8
        rcases h8 with ⟨hk8, rfl, hw8⟩ | ⟨_, rfl, hw8⟩
        · obtain ⟨col8, hd8, st8⟩ := hw8
          have E8 := E.step st8 (by omega)
          clear st8
          have ok8 := crash_Ok ok hk8
          have z8 : (s.crash keep).size = s.size := rfl
          have n8 : (s.crash keep).count = s.count := rfl
          have p8 : (s.crash keep).pending = [] := rfl
          have Hz8 := Lib.hid (z8.trans hsz.out.1); have Hn8 := Lib.hid (n8.trans hsz.out.2); have Hp8 := Lib.hid p8
          clear z8 n8 p8 hk8
          generalize s.crash keep = S at *
          clear hd ok hsz hp
          go_wp2_with fail
          refine (image_law _ _ _ _ _ hd8 ok8 E8.norm).mono ?_
          rintro e w9 ⟨⟨a9, cap9, rfl, hs9⟩, k9⟩
          have hd9 := hd8.below k9
          have E9 := E8.below k9
          have hplen := ok8.plen
          have hqp := Lib.hid (quiet_platter S)
          have hmul : IntKind.i64.wrap (size * count) = (S.platter.length : Int) := by
            obtain ⟨m0, m1⟩ := mul_bounds (a := size) (b := count) (by omega) f1 (by omega) f3
            rw [IntWalk.i64_in _ (by omega), hplen, Hz8.out, Hn8.out]
          clear hplen
          by_cases hmore : 0 < more.length
          · have j1 : (0 : Int) < (more.length : Int) := by omega
            go_wp2_with fail
            refine (crash_law _ _ _ _ _ _ more hd9 (by omega) ok8 E9.norm (by rw [Hp8.out]; simp) (E9.rd h4)).mono ?_
            rintro e w10 h10
            rcases h10 with ⟨hk10, rfl, hw10⟩ | ⟨_, rfl, hw10⟩
            · rw [Hp8.out] at hk10
              exact absurd hk10 (keepOk_zero hmore)
            · obtain ⟨col10, hd10, st10⟩ := hw10
              have E10 := E9.step st10 (by omega)
              have r10 := st10.rd (by omega) hs9.rd
              clear st10 hs9
              go_wp2_with fail
              refine (crash_law _ _ _ _ _ _ [] hd10 (by omega) ok8 E10.norm (by rw [Hp8.out]; simp) (hnil _ _)).mono ?_
              rintro e w11 h11
              rcases h11 with ⟨hk11, rfl, hw11⟩ | ⟨hk11, _, _⟩
              · obtain ⟨col11, hd11, st11⟩ := hw11
                have E11 := E10.step st11 (by omega)
                have r11 := st11.rd (by omega) r10
                have ok11 := crash_Ok ok8 hk11
                clear st11
                go_wp2_with fail
                refine (flush_law _ _ _ _ _ hd11 (by omega) ok11 E11.norm (by rw [quiet_pend]; simp)).mono ?_
                rw [quiet_pend]
                rintro e w12 ⟨rfl, ⟨col12, hd12, st12⟩⟩
                have E12 := E11.step st12 (by omega)
                have r12 := st12.rd (by omega) r11
                have ok12 := flush_Ok ok11
                clear st12
                go_wp2_with fail
                refine (image_law _ _ _ _ _ hd12 ok12 E12.norm).mono ?_
                rw [hqp.out]
                rintro e w13 ⟨⟨a13, cap13, rfl, hs13⟩, k13⟩
                have r13 := r12.below k13
                have E13 := E12.below k13
                have hbe : Hid ((S.platter == S.platter) = true) := by show _ = _; simp
                go_wp2_with fail
                refine (sameBytes_any _ _ _ _ _ _ _ hs13.rd r13).mono ?_
                rw [hbe.out]
                rintro e w14 ⟨rfl, k14⟩
                have E14 := E13.below k14
                go_wp2_with fail
                go_ret
                exact ⟨rfl, E14.bel⟩
              · exact absurd (keepOk_nil _) hk11
          · have j1 : ¬ (0 : Int) < (more.length : Int) := by omega
            have hd10 := hd9
            have E10 := E9
            have r10 := hs9.rd
            clear hs9
            go_wp2_with fail
            refine (crash_law _ _ _ _ _ _ [] hd10 (by omega) ok8 E10.norm (by rw [Hp8.out]; simp) (hnil _ _)).mono ?_
            rintro e w11 h11
            rcases h11 with ⟨hk11, rfl, hw11⟩ | ⟨hk11, _, _⟩
            · obtain ⟨col11, hd11, st11⟩ := hw11
              have E11 := E10.step st11 (by omega)
              have r11 := st11.rd (by omega) r10
              have ok11 := crash_Ok ok8 hk11
              clear st11
              go_wp2_with fail
              refine (flush_law _ _ _ _ _ hd11 (by omega) ok11 E11.norm (by rw [quiet_pend]; simp)).mono ?_
              rw [quiet_pend]
              rintro e w12 ⟨rfl, ⟨col12, hd12, st12⟩⟩
              have E12 := E11.step st12 (by omega)
              have r12 := st12.rd (by omega) r11
              have ok12 := flush_Ok ok11
              clear st12
              go_wp2_with fail
              refine (image_law _ _ _ _ _ hd12 ok12 E12.norm).mono ?_
              rw [hqp.out]
              rintro e w13 ⟨⟨a13, cap13, rfl, hs13⟩, k13⟩
              have r13 := r12.below k13
              have E13 := E12.below k13
              have hbe : Hid ((S.platter == S.platter) = true) := by show _ = _; simp
              go_wp2_with fail
              refine (sameBytes_any _ _ _ _ _ _ _ hs13.rd r13).mono ?_
              rw [hbe.out]
              rintro e w14 ⟨rfl, k14⟩
              have E14 := E13.below k14
              go_wp2_with fail
              go_ret
              exact ⟨rfl, E14.bel⟩
            · exact absurd (keepOk_nil _) hk11
        · obtain ⟨col7, hd7, st7⟩ := hw8
          have E7 := E.step st7 (by omega)
          clear st7
          go_wp2_with fail
          refine (crash_law _ _ _ _ _ _ [] hd7 (by omega) ok E7.norm (by omega) (hnil _ _)).mono ?_
          rintro e w8 h8
          rcases h8 with ⟨hk8, rfl, hw8⟩ | ⟨hk8, _, _⟩
          case inr => exact absurd (keepOk_nil _) hk8
          obtain ⟨col8, hd8, st8⟩ := hw8
          have E8 := E7.step st8 (by omega)
          clear st8
          have ok8 := crash_Ok ok hk8
          have z8 : (s.crash []).size = s.size := rfl
          have n8 : (s.crash []).count = s.count := rfl
          have p8 : (s.crash []).pending = [] := rfl
          have Hz8 := Lib.hid (z8.trans hsz.out.1); have Hn8 := Lib.hid (n8.trans hsz.out.2); have Hp8 := Lib.hid p8
          clear z8 n8 p8 hk8
          generalize s.crash [] = S at *
          clear hd ok hsz hp
          go_wp2_with fail
          refine (image_law _ _ _ _ _ hd8 ok8 E8.norm).mono ?_
          rintro e w9 ⟨⟨a9, cap9, rfl, hs9⟩, k9⟩
          have hd9 := hd8.below k9
          have E9 := E8.below k9
          have hplen := ok8.plen
          have hqp := Lib.hid (quiet_platter S)
          have hmul : IntKind.i64.wrap (size * count) = (S.platter.length : Int) := by
            obtain ⟨m0, m1⟩ := mul_bounds (a := size) (b := count) (by omega) f1 (by omega) f3
            rw [IntWalk.i64_in _ (by omega), hplen, Hz8.out, Hn8.out]
          clear hplen
          by_cases hmore : 0 < more.length
          · have j1 : (0 : Int) < (more.length : Int) := by omega
            go_wp2_with fail
            refine (crash_law _ _ _ _ _ _ more hd9 (by omega) ok8 E9.norm (by rw [Hp8.out]; simp) (E9.rd h4)).mono ?_
            rintro e w10 h10
            rcases h10 with ⟨hk10, rfl, hw10⟩ | ⟨_, rfl, hw10⟩
            · rw [Hp8.out] at hk10
              exact absurd hk10 (keepOk_zero hmore)
            · obtain ⟨col10, hd10, st10⟩ := hw10
              have E10 := E9.step st10 (by omega)
              have r10 := st10.rd (by omega) hs9.rd
              clear st10 hs9
              go_wp2_with fail
              refine (crash_law _ _ _ _ _ _ [] hd10 (by omega) ok8 E10.norm (by rw [Hp8.out]; simp) (hnil _ _)).mono ?_
              rintro e w11 h11
              rcases h11 with ⟨hk11, rfl, hw11⟩ | ⟨hk11, _, _⟩
              · obtain ⟨col11, hd11, st11⟩ := hw11
                have E11 := E10.step st11 (by omega)
                have r11 := st11.rd (by omega) r10
                have ok11 := crash_Ok ok8 hk11
                clear st11
                go_wp2_with fail
                refine (flush_law _ _ _ _ _ hd11 (by omega) ok11 E11.norm (by rw [quiet_pend]; simp)).mono ?_
                rw [quiet_pend]
                rintro e w12 ⟨rfl, ⟨col12, hd12, st12⟩⟩
                have E12 := E11.step st12 (by omega)
                have r12 := st12.rd (by omega) r11
                have ok12 := flush_Ok ok11
                clear st12
                go_wp2_with fail
                refine (image_law _ _ _ _ _ hd12 ok12 E12.norm).mono ?_
                rw [hqp.out]
                rintro e w13 ⟨⟨a13, cap13, rfl, hs13⟩, k13⟩
                have r13 := r12.below k13
                have E13 := E12.below k13
                have hbe : Hid ((S.platter == S.platter) = true) := by show _ = _; simp
                go_wp2_with fail
                refine (sameBytes_any _ _ _ _ _ _ _ hs13.rd r13).mono ?_
                rw [hbe.out]
                rintro e w14 ⟨rfl, k14⟩
                have E14 := E13.below k14
                go_wp2_with fail
                go_ret
                exact ⟨rfl, E14.bel⟩
              · exact absurd (keepOk_nil _) hk11
          · have j1 : ¬ (0 : Int) < (more.length : Int) := by omega
            have hd10 := hd9
            have E10 := E9
            have r10 := hs9.rd
            clear hs9
            go_wp2_with fail
            refine (crash_law _ _ _ _ _ _ [] hd10 (by omega) ok8 E10.norm (by rw [Hp8.out]; simp) (hnil _ _)).mono ?_
            rintro e w11 h11
            rcases h11 with ⟨hk11, rfl, hw11⟩ | ⟨hk11, _, _⟩
            · obtain ⟨col11, hd11, st11⟩ := hw11
              have E11 := E10.step st11 (by omega)
              have r11 := st11.rd (by omega) r10
              have ok11 := crash_Ok ok8 hk11
              clear st11
              go_wp2_with fail
              refine (flush_law _ _ _ _ _ hd11 (by omega) ok11 E11.norm (by rw [quiet_pend]; simp)).mono ?_
              rw [quiet_pend]
              rintro e w12 ⟨rfl, ⟨col12, hd12, st12⟩⟩
              have E12 := E11.step st12 (by omega)
              have r12 := st12.rd (by omega) r11
              have ok12 := flush_Ok ok11
              clear st12
              go_wp2_with fail
              refine (image_law _ _ _ _ _ hd12 ok12 E12.norm).mono ?_
              rw [hqp.out]
              rintro e w13 ⟨⟨a13, cap13, rfl, hs13⟩, k13⟩
              have r13 := r12.below k13
              have E13 := E12.below k13
              have hbe : Hid ((S.platter == S.platter) = true) := by show _ = _; simp
              go_wp2_with fail
              refine (sameBytes_any _ _ _ _ _ _ _ hs13.rd r13).mono ?_
              rw [hbe.out]
              rintro e w14 ⟨rfl, k14⟩
              have E14 := E13.below k14
              go_wp2_with fail
              go_ret
              exact ⟨rfl, E14.bel⟩
            · exact absurd (keepOk_nil _) hk11
end Go.Proofs.Ytlkebppmdbgdmaa
