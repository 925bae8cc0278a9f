/-
  The walk of DiskApart.
-/
import Derived.Test.YtlkebppmdbgdmaaPlays
import Derived.Test.YtlkebppmdbgdmaaRefFork
namespace Go.Proofs.Ytlkebppmdbgdmaa
open Go.RowKit
set_option linter.unusedSimpArgs false
set_option linter.unusedVariables false

/-- the colours up to n alone -/
def colUp (col : Nat → Nat) (n : Nat) (k : Nat) : Nat := if col k ≤ n then col k else 0
theorem DiskAt.up {T : TypeId} {w : World} {col : Nat → Nat} {c b n : Nat} {s : DS} (h : DiskAt w T col c b s) (hn : c + 2 ≤ n) (hc : 1 < c) : DiskAt w T (colUp col n) c b s := by
  obtain ⟨pa, pcap, qa, qn, qcap, qs, h⟩ := h
  have e : ∀ k, col k ≤ n → colUp col n k = col k := fun k hk => by simp [colUp, hk]
  have hcol := h.color
  have hp : ∀ {ps : List (Int × List Int)} {cs : List Value}, PendC w col ps cs → PendC w (colUp col n) ps cs := by
    intro ps
    induction ps with
    | nil => intro cs h; exact h
    | cons p ps ih =>
      intro cs h
      obtain ⟨a, m, cap, rest, rfl, h1, h2⟩ := h
      exact ⟨a, m, cap, rest, rfl, h1.mono (fun k _ x => by rw [e k (by omega)]; exact x), ih h2⟩
  exact ⟨pa, pcap, qa, qn, qcap, qs, h.block, by rw [e b (by omega)]; exact hcol, h.plat.mono (fun k _ x => by rw [e k (by omega)]; exact x), h.list.mono (fun k _ x => by rw [e k (by omega)]; exact x), h.len, hp h.pend⟩
theorem RefAt.up {w : World} {col : Nat → Nat} {c b n : Nat} {s : DS} (h : RefAt w col c b s) (hn : c + 2 ≤ n) (hc : 1 < c) : RefAt w (colUp col n) c b s := by
  obtain ⟨t, h, e⟩ := h
  exact ⟨t, h.up hn hc, e⟩
theorem Env.up {W w : World} {col : Nat → Nat} (h : Env W col w) (n : Nat) : Env W (colUp col n) w :=
  ⟨fun k hk => by have := h.norm k hk; simp [colUp, this], fun k hk => by have := h.zero k hk; simp [colUp, this], h.bel⟩
theorem clear_up {w : World} {col : Nat → Nat} {n c : Nat} (hc : n < c) : Clear w.heap.size (colUp col n) c := fun i _ e => by
  have : colUp col n i ≤ n := by unfold colUp; split <;> omega
  unfold inC at e
  omega
theorem ref_fork {w : World} {col : Nat → Nat} {c b : Nat} {s : DS} (h : RefAt w col c b s) (ok : s.Ok) (hp : s.pending.length ≤ 1073741824) (c' : Nat) (hc' : 1 < c') (hcl : Clear w.heap.size col c') :
    Calls Try.prog 32 #[.pointer (some ⟨b, 0, none⟩)] w fun e w' => (∃ b' col', e = .returned (.pointer (some ⟨b', 0, none⟩)) ∧ RefAt w' col' c' b' s ∧ Step c' col col' w w') := by
  obtain ⟨t, h, e⟩ := h
  have h1 : t.pending = s.pending := by rw [← e]; rfl
  have h2 : t.platter = s.platter := by rw [← e]; rfl
  have hplen := ok.plen
  obtain ⟨m0, m1⟩ := mul_bounds (a := s.size) (b := s.count) (by have := ok.size0; omega) ok.size1 (by have := ok.count0; omega) ok.count1
  refine (reffork_any w col c b t h (by rw [h1]; exact hp) (by rw [h2]; omega) (fun p hpp => by
    rw [h1] at hpp
    have := (ok.pend p hpp).2.2
    have := ok.size1
    omega) c' hc' hcl).mono ?_
  rintro e' w' ⟨⟨b', col', rfl, hb, hd, hx, hn⟩, k⟩
  exact ⟨b', col', rfl, ⟨t, hd, e⟩, hx, Chg.of_below k, hn⟩
/-- two pairs of disks that stand -/
structure Four (W : World) (b b2 b3 b4 : Nat) (col : Nat → Nat) (s t : DS) (N : Nat) (w : World) : Prop where
  one : DiskAt w 69 col 10 b s
  two : RefAt w col 20 b2 s
  three : DiskAt w 69 col 30 b3 t
  four : RefAt w col 40 b4 t
  ok : s.Ok
  ok2 : t.Ok
  env : Env W col w
  pend : s.pending.length ≤ N
  pend2 : t.pending.length ≤ N

set_option maxHeartbeats 4000000 in
theorem apart_any (W : World) (size count : Int) (v2 : Value) (l : List OpD) (h2 : OpsAt W (fun k => k < W.heap.size) v2 l ∧ l.length ≤ 1048576) (v3 : Value) (m : List OpD) (h3 : OpsAt W (fun k => k < W.heap.size) v3 m ∧ m.length ≤ 1048576) :
    Calls Try.prog 9 #[.int .i64 size, .int .i64 count, v2, v3] W fun e w' => e = .returned (.bool true) ∧ Below W.heap.size W w' := by
  obtain ⟨a2, cap2, rfl, hmax2⟩ := h2.1.shape
  obtain ⟨h2, hl2⟩ := h2
  obtain ⟨a3, cap3, rfl, hmax3⟩ := h3.1.shape
  obtain ⟨h3, hl3⟩ := h3
  unfold maxLen at hmax2 hmax3
  cases hf : fitsD size count with
  | false =>
    have Hf := Lib.hid hf; clear hf
    go_enter Try.func9, Try.ntmps9
    go_wp2_with fail
    refine (lives_any _).mono ?_
    rintro e w1 ⟨rfl, k1⟩
    go_wp2_with fail
    refine (new_no _ _ _ Hf.out).mono ?_
    rintro e w2 ⟨rfl, rfl⟩
    go_wp2_with fail
    refine (refnew_no _ _ _ Hf.out).mono ?_
    rintro e w3 ⟨rfl, rfl⟩
    go_wp2
    go_ret
    exact ⟨rfl, k1⟩
  | true =>
    have ok0 := new_Ok hf
    obtain ⟨f0, f1, f2, f3⟩ := fits_bounds hf
    have Hf := Lib.hid hf; clear hf
    go_enter Try.func9, Try.ntmps9
    go_wp2_with fail
    refine (lives_any _).mono ?_
    rintro e w1 ⟨rfl, k1⟩
    have E1 := (Env.refl W).below k1
    go_wp2_with fail
    refine (new_ok _ _ _ Hf.out (fun _ => 0) 10).mono ?_
    rintro e w2 ⟨⟨b, col, rfl, hb, h5, x5, m5⟩, k5⟩
    have E2 : Env W col w2 := E1.step (c := 10) ⟨x5, Chg.of_below k5, m5⟩ (by omega)
    go_wp2_with fail
    refine (refnew_ok _ _ _ Hf.out col 20).mono ?_
    rintro e w3 ⟨⟨b2, col3, rfl, hb2, h6, x6, m6⟩, k6⟩
    have st3 : Step 20 col col3 w2 w3 := ⟨x6, Chg.of_below k6, m6⟩
    have E3 : Env W col3 w3 := E2.step st3 (by omega)
    have h5' := st3.other (by omega) (by omega) h5
    have hr3 : RefAt w3 col3 20 b2 (DS.new size count) := ⟨_, h6, rfl⟩
    clear h5 h6 x5 x6 st3 E1 E2 k5 k6
    go_wp2_with fail
    go_loopw [13] (fun i wr => ∃ (k : Nat) (col : Nat → Nat) (s : DS), k ≤ l.length ∧ i = .int .i64 k ∧ DiskAt wr 69 col 10 b s ∧ RefAt wr col 20 b2 s ∧ s.Ok ∧ Env W col wr ∧ s.pending.length ≤ k) (fun i _ => l.length - (intOf i).toNat)
    case atStart => exact ⟨0, col3, DS.new size count, by omega, rfl, h5', hr3, ok0, E3, by simp [DS.new]⟩
    case round =>
      obtain ⟨k, col', s, hk, rfl, hd, hx, ok, E, hp⟩ := hrel
      by_cases hlt : k < l.length
      · obtain ⟨g, off, rfl, hg, _, hcs⟩ := h2.get (by omega)
        have hc := hcs k hlt
        obtain ⟨ka, kcap, c0, d1, d2, d3, d4, hkr, hfine⟩ := E.op5 hg hc
        generalize l[k] = o at *
        have i0 : (0 : Int) ≤ (k : Int) := by omega
        have i1 : (k : Int) < (l.length : Int) := by omega
        by_cases hk8 : o.kind = 8
        · have q8 : (o.kind != 8) = false := by simp [hk8]
          clear hk8
          go_wp2_with fail
          go_roundw
          case rel => exact ⟨k + 1, col', s, by omega, by go_num, hd, hx, ok, E, by omega⟩
          case measure => simp [intOf]; omega
        · have q8 : (o.kind != 8) = true := by simp [hk8]
          clear hk8
          have p9 := stepS_pend s o
          have ok9 := stepS_Ok ok o hfine.1.2
          have hst := Lib.hid (step_any wr col' 10 20 b b2 s o ka kcap hd hx ok E.norm (by omega) (by omega) (by omega) (by omega) hfine.2.1 hkr)
          unfold opv at hst
          go_wp2_with fail
          refine hst.out.mono ?_
          rintro e w4 ⟨rfl, col4, st4, hd4, hx4⟩
          have E4 := E.step2 st4 (by omega) (by omega)
          generalize stepS s o = s9 at *
          go_wp2_with fail
          go_roundw
          case rel => exact ⟨k + 1, col4, s9, by omega, by go_num, hd4, hx4, ok9, E4, by omega⟩
          case measure => simp [intOf]; omega
      · obtain rfl : k = l.length := by omega
        have hplen := ok.plen
        obtain ⟨m0, m1⟩ := mul_bounds (a := s.size) (b := s.count) (by have := ok.size0; omega) ok.size1 (by have := ok.count0; omega) ok.count1
        have hpl : s.platter.length ≤ 1073741824 := by omega
        have hs0 : 0 < s.size := by have := ok.size0; omega
        clear hplen m0 m1
        go_wp2_with fail
        refine (fork_any _ _ _ _ _ hd hs0 (by omega) hpl 30 (by omega)).mono ?_
        rintro e w4 ⟨⟨b4, col4, rfl, hb4, hd4, x4, m4⟩, k4⟩
        have st4 : Step 30 col' col4 wr w4 := ⟨x4, Chg.of_below k4, m4⟩
        have E4 := (E.step st4 (by omega)).up 32
        have ho4 := (st4.other (by omega) (by omega) hd).up (n := 32) (by omega) (by omega)
        have hx4 := (st4.refAt (by omega) (by omega) hx).up (n := 32) (by omega) (by omega)
        have hd4' := hd4.up (n := 32) (by omega) (by omega)
        have hcl : Clear w4.heap.size (colUp col4 32) 40 := clear_up (by omega)
        generalize colUp col4 32 = colA at *
        clear hd4 x4 m4 st4
        go_wp2_with fail
        refine (ref_fork hx4 ok (by omega) 40 (by omega) hcl).mono ?_
        rintro e w5 ⟨b5, col5, rfl, hy5, st5⟩
        have F5 : Four W b b2 b4 b5 col5 s s (l.length + 0) w5 := ⟨st5.other (by omega) (by omega) ho4, st5.refAt (by omega) (by omega) hx4, st5.other (by omega) (by omega) hd4', hy5, ok, ok, E4.step st5 (by omega), by omega, by omega⟩
        clear hd hx E ho4 hx4 hd4' hy5 st5 E4 hcl k4
        go_wp2_with fail
        go_loopw [16] (fun i wr => ∃ (k : Nat) (col : Nat → Nat) (s t : DS), k ≤ m.length ∧ i = .int .i64 k ∧ Four W b b2 b4 b5 col s t (l.length + k) wr) (fun i _ => m.length - (intOf i).toNat)
        case atStart => exact ⟨0, col5, s, s, by omega, rfl, F5⟩
        case round =>
          clear F5 ok hp hpl hs0
          obtain ⟨k, col', s, t, hk, rfl, F⟩ := hrel
          have hps := F.pend
          have hpt := F.pend2
          by_cases hlt : k < m.length
          · obtain ⟨g, off, rfl, hg, _, hcs⟩ := h3.get (by omega)
            have hc := hcs k hlt
            obtain ⟨ka, kcap, c0, d1, d2, d3, d4, hkr, hfine⟩ := F.env.op5 hg hc
            generalize m[k] = o at *
            have i0 : (0 : Int) ≤ (k : Int) := by omega
            have i1 : (k : Int) < (m.length : Int) := by omega
            by_cases hk8 : o.kind = 8
            · have q8 : (o.kind == 8) = true := by simp [hk8]
              clear hk8
              go_wp2_with fail
              go_roundw
              case rel => exact ⟨k + 1, col', s, t, by omega, by go_num, F.one, F.two, F.three, F.four, F.ok, F.ok2, F.env, by omega, by omega⟩
              case measure => simp [intOf]; omega
            · have q8 : (o.kind == 8) = false := by simp [hk8]
              clear hk8
              by_cases hev : k % 2 = 0
              · have p9 := stepS_pend s o
                have ok9 := stepS_Ok F.ok o hfine.1.2
                have hst := Lib.hid (step_any wr col' 10 20 b b2 s o ka kcap F.one F.two F.ok F.env.norm (by omega) (by omega) (by omega) (by omega) hfine.2.1 hkr)
                unfold opv at hst
                go_wp2_with fail
                refine hst.out.mono ?_
                rintro e w4 ⟨rfl, col4, st4, hd4, hx4⟩
                have E4 := F.env.step2 st4 (by omega) (by omega)
                have hc4 := st4.other (by omega) (by omega) (by omega) (by omega) F.three
                have hy4 := st4.refAt (by omega) (by omega) (by omega) (by omega) F.four
                have okt := F.ok2
                clear hst F
                generalize stepS s o = s9 at *
                go_wp2_with fail
                go_roundw
                case rel => exact ⟨k + 1, col4, s9, t, by omega, by go_num, hd4, hx4, hc4, hy4, ok9, okt, E4, by omega, by omega⟩
                case measure => simp [intOf]; omega
              · have p9 := stepS_pend t o
                have ok9 := stepS_Ok F.ok2 o hfine.1.2
                have hst := Lib.hid (step_any wr col' 30 40 b4 b5 t o ka kcap F.three F.four F.ok2 F.env.norm (by omega) (by omega) (by omega) (by omega) hfine.2.1 hkr)
                unfold opv at hst
                go_wp2_with fail
                refine hst.out.mono ?_
                rintro e w4 ⟨rfl, col4, st4, hd4, hx4⟩
                have E4 := F.env.step2 st4 (by omega) (by omega)
                have hc4 := st4.other (by omega) (by omega) (by omega) (by omega) F.one
                have hy4 := st4.refAt (by omega) (by omega) (by omega) (by omega) F.two
                have oks := F.ok
                clear hst F
                generalize stepS t o = s9 at *
                go_wp2_with fail
                go_roundw
                case rel => exact ⟨k + 1, col4, s, s9, by omega, by go_num, hc4, hy4, hd4, hx4, oks, ok9, E4, by omega, by omega⟩
                case measure => simp [intOf]; omega
          · obtain rfl : k = m.length := by omega
            go_wp2_with fail
            refine (looks_any _ _ 10 20 _ _ s F.one F.two F.ok F.env.norm (by omega) (by omega) (by omega) (by omega)).mono ?_
            rintro e w4 ⟨rfl, col4, st4, hd4, hx4⟩
            have E4 := F.env.step2 st4 (by omega) (by omega)
            have hc4 := st4.other (by omega) (by omega) (by omega) (by omega) F.three
            have hy4 := st4.refAt (by omega) (by omega) (by omega) (by omega) F.four
            have okt := F.ok2
            clear F
            go_wp2_with fail
            refine (looks_any _ _ 30 40 _ _ t hc4 hy4 okt E4.norm (by omega) (by omega) (by omega) (by omega)).mono ?_
            rintro e w5 ⟨rfl, col5', st5, hd5, hx5⟩
            have E5 := E4.step2 st5 (by omega) (by omega)
            go_wp2
            go_ret
            exact ⟨rfl, E5.bel⟩
end Go.Proofs.Ytlkebppmdbgdmaa
