/-
  The walk of DiskMakes.
-/
import Derived.Test.YtlkebppmdbgdmaaRef1
import Derived.Deep.RegionHeld3
namespace Go.Proofs.Ytlkebppmdbgdmaa
open Go.RowKit
set_option linter.unusedSimpArgs false
set_option linter.unusedVariables false

theorem nm20 : (Try.f20.name == "runtime.NumGoroutine") = false := by kernel_rfl
theorem bd20 : Try.f20.body.isNone = false := by kernel_rfl
theorem nm19 : (Try.f19.name == "runtime.NumGoroutine") = false := by kernel_rfl
theorem bd19 : Try.f19.body.isNone = false := by kernel_rfl
theorem nm22 : (Try.f22.name == "runtime.NumGoroutine") = false := by kernel_rfl
theorem bd22 : Try.f22.body.isNone = false := by kernel_rfl
theorem nm23 : (Try.f23.name == "runtime.NumGoroutine") = false := by kernel_rfl
theorem bd23 : Try.f23.body.isNone = false := by kernel_rfl

theorem size_law (w : World) (col : Nat → Nat) (c b : Nat) (s : DS) (h : DiskAt w 69 col c b s) (ok : s.Ok) : Calls Try.prog 22 #[.pointer (some ⟨b, 0, none⟩)] w fun e w' => e = .returned (.int .i64 s.size) ∧ w = w' := by
  obtain ⟨pa, pcap, qa, qn, qcap, qs, h⟩ := h
  exact size_any h (by have := ok.size0; omega)
theorem count_law (w : World) (col : Nat → Nat) (c b : Nat) (s : DS) (h : DiskAt w 69 col c b s) (ok : s.Ok) : Calls Try.prog 23 #[.pointer (some ⟨b, 0, none⟩)] w fun e w' => e = .returned (.int .i64 s.count) ∧ w = w' := by
  obtain ⟨pa, pcap, qa, qn, qcap, qs, h⟩ := h
  exact count_any h (by have := ok.size0; omega)
/-- two disks that stand, in whatever world of a region -/
structure Two (c d : Nat) (W : World) (col : Nat → Nat) (b b2 : Nat) (s t : DS) (pa : Option Addr) (pcap : Nat) (qa : Option Addr) (qn qcap : Nat) (qs : List Value) (w : World) : Prop where
  one : DiskAt w 69 col c b s
  two : DiskIn w 49 col d b2 t pa pcap qa qn qcap qs
  env : Env W col w
section
variable {c d : Nat} {W : World} {col : Nat → Nat} {b b2 : Nat} {s t : DS} {pa : Option Addr} {pcap : Nat} {qa : Option Addr} {qn qcap : Nat} {qs : List Value} {w w' : World}
theorem Two.below (k : Below w.heap.size w w') (h : Two c d W col b b2 s t pa pcap qa qn qcap qs w) : Two c d W col b b2 s t pa pcap qa qn qcap qs w' :=
  ⟨h.one.below k, h.two.below k, h.env.below k⟩
theorem Two.keep (k : Below w.heap.size w w') (h : w.cell? ⟨b2, 2, none⟩ = some (.slice pa t.platter.length pcap) ∧ Two c d W col b b2 s t pa pcap qa qn qcap qs w) :
    w'.cell? ⟨b2, 2, none⟩ = some (.slice pa t.platter.length pcap) ∧ Two c d W col b b2 s t pa pcap qa qn qcap qs w' := ⟨(h.2.below k).two.platter, h.2.below k⟩
theorem Two.keepCount (k : Below w.heap.size w w') (h : w.cell? ⟨b2, 1, none⟩ = some (.int .i64 t.count) ∧ Two c d W col b b2 s t pa pcap qa qn qcap qs w) :
    w'.cell? ⟨b2, 1, none⟩ = some (.int .i64 t.count) ∧ Two c d W col b b2 s t pa pcap qa qn qcap qs w' := ⟨(h.2.below k).two.count, h.2.below k⟩
theorem Two.same (h : Two c d W col b b2 s t pa pcap qa qn qcap qs w) : Two c d W col b b2 s t pa pcap qa qn qcap qs w.drew :=
  ⟨h.one.below (Below.refl _ _).drew, h.two.below (Below.refl _ _).drew, h.env.below (Below.refl _ _).drew⟩
end

/-- one element of a slice is written -/
theorem SlAt.poke {w : World} {own : Nat → Prop} {e : TypeId} {g off n cap : Nat} {xs : List Value} (h : SlAt w own e 1 (.slice (some ⟨g, off, none⟩) n cap) n xs) {k : Nat} (hk : k < n) (u : Value) :
    own g ∧ g < w.heap.size ∧ w.cell? ⟨g, off + k, none⟩ = xs[k]? ∧ w.frozen? ⟨g, off + k, none⟩ = false ∧ SlAt (w.setCell ⟨g, off + k, none⟩ u) own e 1 (.slice (some ⟨g, off, none⟩) n cap) n (xs.set k u) := by
  obtain ⟨hl, ⟨a, e1, hn⟩ | ⟨g', off', cap', cur, e1, ho, hb, l1, l2, l3, l4⟩⟩ := h
  · omega
  · injection e1 with e1 e2 e3
    injection e1 with e1
    injection e1 with e1 e4
    subst e1 e3 e4
    rw [Nat.mul_one] at l3 l4
    refine ⟨ho, lt_of_block hb, ?_, free_of_block hb _, by simpa using hl, Or.inr ⟨g, off, cap, _, rfl, ho, block_set hb _ _, l1, l2, by simpa using l3, ?_⟩⟩
    · rw [cell_of_block hb, ← l4, List.getElem?_take, if_pos hk, List.getElem?_drop]; simp
    · rw [Nat.mul_one, Array.toList_setIfInBounds, List.drop_set, if_neg (by omega), List.take_set, l4]
      congr 1
      omega
theorem Env.touch {W w w' : World} {col : Nat → Nat} {g : Nat} (h : Env W col w) (k : Chg (fun j => j = g) w w') (hg : W.heap.size ≤ g) : Env W col w' :=
  ⟨h.norm.grow k.size, h.zero, h.bel.trans (k.below h.size (fun i hi e => by omega))⟩
theorem DiskAt.touch {T : TypeId} {w w' : World} {col : Nat → Nat} {c b g : Nat} {s : DS} (h : DiskAt w T col c b s) (hc : 1 < c) (k : Chg (fun j => j = g) w w') (hg : col g = 0) : DiskAt w' T col c b s :=
  h.keep (fun i hi e => k.block i hi (fun e' => by subst e'; unfold inC at e; omega)) (Ext.refl _ _) k.size

set_option maxRecDepth 100000 in
set_option maxHeartbeats 4000000 in
theorem makes_any (W : World) (size count : Int) (v2 : Value) (img : List Int) (h2 : BytesAt W (fun k => k < W.heap.size) v2 img ∧ img.length ≤ 1048576) :
    Calls Try.prog 5 #[.int .i64 size, .int .i64 count, v2] W fun e w' => e = .returned (.bool true) ∧ Below W.heap.size W w' := by
  obtain ⟨h2, hl2⟩ := h2
  obtain ⟨a2, cap2, rfl, hmax2⟩ := RdAt.shape h2
  unfold maxLen at hmax2
  obtain ⟨i0, hi, hz0, hz1, hz2⟩ := info_parts info5
  cases hf : fitsD size count with
  | false =>
    have Hf := Lib.hid hf; clear hf
    go_enter Try.func5, Try.ntmps5
    go_wp2_with fail
    refine (lives_any _).mono ?_
    rintro e w1 ⟨rfl, k1⟩
    have E1 := (Env.refl W).below k1
    go_wp2_with fail
    refine (new_no _ _ _ Hf.out).mono ?_
    rintro e w' ⟨rfl, rfl⟩
    go_wp2_with fail
    refine (refnew_no _ _ _ Hf.out).mono ?_
    rintro e w' ⟨rfl, rfl⟩
    have Ez := E1.below (Below.refl _ _).drew
    go_wp2
    go_region
    generalize w1.drew = wz at *
    generalize (fun _ : Nat => (0 : Nat)) = col0 at *
    go_wp2_with (at_builtin; go_must (refine wpList_append_sl rfl _ _ 30 rfl 5 i0 (.int .u8 0) 1 1 Try.underlying30 hi hz0 hz1 hz2 rfl (fun _ => False) _ 0 [] rfl (SlAt.nil _ _ _ _ _) (Nil0 col0) _ img.length (bcells img) rfl ?_ (bcells_one _) ?_ ?_ ?_); exact (Ez.rd h2).below ((Below.refl _ _).alloc (Nat.le_refl _) _); (unfold maxLen; omega); omega; rintro v9 w9 hs9 hc9)
    have Ea : Env W col0 (wz.alloc (.cells #[] 5)) := Ez.below ((Below.refl _ _).alloc (Nat.le_refl _) _)
    have E9 : Env W col0 w9 := Ea.below (hc9.below (Nat.le_refl _) (fun i _ e => e))
    have hs9' : SlAt w9 (fun k => W.heap.size ≤ k ∧ col0 k = 0) 5 1 v9 img.length (bcells img) := by
      rw [Nat.zero_add, List.nil_append] at hs9
      refine hs9.mono (fun k _ e => ?_)
      rcases e with e | e
      · exact e.elim
      · exact ⟨by have := Ea.size; omega, Ea.norm k (by omega)⟩
    obtain ⟨a9, cap9, rfl⟩ := hs9'.shape
    have r9 : RdAt w9 (Nil0 col0) 1 (.slice a9 img.length cap9) img.length (bcells img) := hs9'.rd.mono (fun k _ e => e.2)
    clear hs9 hc9 Ea
    have hie : Hid ((img == img) = true) := by show _ = _; simp
    cases hlo : loadOk size img.length with
    | false =>
      have Hlo := Lib.hid hlo; clear hlo
      go_wp2_with fail
      refine (load_no _ _ _ _ _ r9 Hlo.out).mono ?_
      rintro e w' ⟨rfl, rfl⟩
      go_wp2_with fail
      refine (refload_no _ _ _ _ _ (E9.rd h2) Hlo.out).mono ?_
      rintro e w' ⟨rfl, rfl⟩
      go_wp2_with fail
      refine (sameBytes_any _ _ _ _ _ _ _ r9 (E9.rd h2)).mono ?_
      rw [hie.out]
      rintro e w10 ⟨rfl, k10⟩
      go_wp2_with fail
      go_ret
      exact ⟨rfl, (E9.below k10).bel⟩
    | true =>
      have okL := load_Ok hlo
      have Hlo := Lib.hid hlo; clear hlo
      go_wp2_with fail
      refine (load_ok _ _ _ _ _ r9 Hlo.out col0 30 (by omega)).mono ?_
      rintro e w10 ⟨⟨b3, col10, rfl, hb3, h10, x10, m10⟩, k10⟩
      have st10 : Step 30 col0 col10 w9 w10 := ⟨x10, Chg.of_below k10, m10⟩
      have E10 := E9.step st10 (by omega)
      have hs10 : SlAt w10 (fun k => W.heap.size ≤ k ∧ col10 k = 0) 5 1 (.slice a9 img.length cap9) img.length (bcells img) := hs9'.keep (fun k hk _ => k10.block k hk) (fun k hk e => ⟨e.1, (x10 k hk).trans e.2⟩)
      go_wp2_with fail
      refine (refload_ok _ _ _ _ _ (E10.rd h2) Hlo.out col10 40 (by omega)).mono ?_
      rintro e w11 ⟨⟨b4, col11, rfl, hb4, h11, x11, m11⟩, k11⟩
      have st11 : Step 40 col10 col11 w10 w11 := ⟨x11, Chg.of_below k11, m11⟩
      have E11 := E10.step st11 (by omega)
      have hd11 := st11.other (by omega) (by omega) h10
      have hs11 : SlAt w11 (fun k => W.heap.size ≤ k ∧ col11 k = 0) 5 1 (.slice a9 img.length cap9) img.length (bcells img) := hs10.keep (fun k hk _ => k11.block k hk) (fun k hk e => ⟨e.1, (x11 k hk).trans e.2⟩)
      clear st10 st11 r9 hs9' hs10 h10 E9 E10 x10 x11 m10 m11
      go_wp2_with fail
      refine (sameBytes_any _ _ _ _ _ _ _ hs11.rd (E11.rd h2)).mono ?_
      rw [hie.out]
      rintro e w12 ⟨rfl, k12⟩
      have E12 := E11.below k12
      have hd12 := hd11.below k12
      have hx12 := h11.below k12
      have hs12 := hs11.below k12
      clear E11 hd11 h11 hs11
      go_wp2_with fail
      go_loopw [12] (fun i wr => ∃ (k : Nat) (l' : List Int), k ≤ img.length ∧ i = .int .i64 k ∧ Env W col11 wr ∧ DiskAt wr 69 col11 30 b3 (DS.load size img) ∧ DiskAt wr 49 col11 40 b4 (DS.load size img) ∧ SlAt wr (fun k => W.heap.size ≤ k ∧ col11 k = 0) 5 1 (.slice a9 img.length cap9) img.length (bcells l') ∧ Hid (l'.length = img.length)) (fun i _ => img.length - (intOf i).toNat)
      case atStart => exact ⟨0, img, by omega, rfl, E12, hd12, hx12, hs12, rfl⟩
      case round =>
        obtain ⟨k, l', hk, rfl, E, hd, hx, hs, hl'⟩ := hrel
        by_cases hlt : k < img.length
        · obtain ⟨g, off, rfl, _, _, hjunk⟩ := hs.rd.get (by omega)
          clear hjunk
          have hkl : k < l'.length := by have := hl'.out; omega
          obtain ⟨hg, hgl, c1, f1, _⟩ := hs.poke hlt (.int .u8 0)
          rw [bcells_get hkl] at c1
          have i0' : (0 : Int) ≤ (k : Int) := by omega
          have i1' : (k : Int) < (img.length : Int) := by omega
          go_wp2
          have hp := (hs.poke hlt (.int .u8 (IntKind.u8.wrap (l'[k] + 1)))).2.2.2.2
          have hch : Chg (fun j => j = g) wr (wr.setCell ⟨g, off + k, none⟩ (.int .u8 (IntKind.u8.wrap (l'[k] + 1)))) := Chg.of_set _ _ _ _ rfl
          go_roundw
          case rel =>
            refine ⟨k + 1, l'.set k (IntKind.u8.wrap (l'[k] + 1)), by omega, by go_num, E.touch hch hg.1, hd.touch (by omega) hch hg.2, hx.touch (by omega) hch hg.2, ?_, by show _ = _; rw [List.length_set]; exact hl'.out⟩
            have e : bcells (l'.set k (IntKind.u8.wrap (l'[k] + 1))) = (bcells l').set k (.int .u8 (IntKind.u8.wrap (l'[k] + 1))) := by simp [bcells, List.map_set]
            rw [e]
            exact hp
          case measure => simp [intOf]; omega
        · obtain rfl : k = img.length := by omega
          obtain ⟨pa4, pcap4, qa4, qn4, qcap4, qs4, hxi⟩ := hx
          have hT4 : Two 30 40 W col11 b3 b4 (DS.load size img) (DS.load size img) pa4 pcap4 qa4 qn4 qcap4 qs4 wr := ⟨hd, hxi, E⟩
          have hTd4 := hT4.same
          have hpl : (DS.load size img).platter = img := rfl
          have hsz4 : (DS.load size img).size = size := rfl
          have hse4 : Hid ((DS.load size img).sectors = []) := rfl
          have hpe4 : Hid ((DS.load size img).pending = []) := rfl
          have c63 : wr.drew.cell? ⟨b4, 1, none⟩ = some (.int .i64 (DS.load size img).count) := hTd4.two.count
          generalize DS.load size img = S4 at *
          clear hT4 hxi hd E hs
          go_wp2_with fail
          go_region_held3 (fun w' => w'.cell? ⟨b4, 1, none⟩ = some (.int .i64 S4.count) ∧ Two 30 40 W col11 b3 b4 S4 S4 pa4 pcap4 qa4 qn4 qcap4 qs4 w') (first | exact ⟨c63, hTd4⟩ | assumption | exact Two.keepCount (by assumption) (by assumption)) (first | (go_at_call 20; (have hS := ‹_ ∧ Two 30 40 W col11 b3 b4 S4 S4 pa4 pcap4 qa4 qn4 qcap4 qs4 _›); refine (image_law _ _ _ _ _ hS.2.one okL hS.2.env.norm).mono ?_; rw [hpl]; rintro e w6 ⟨⟨a6, cap6, rfl, hs6⟩, hb6⟩) | (go_at_call 19; (have hS := ‹_ ∧ Two 30 40 W col11 b3 b4 S4 S4 pa4 pcap4 qa4 qn4 qcap4 qs4 _›); refine (sameBytes_any _ _ _ _ _ _ _ hs6.rd (hS.2.env.rd h2)).mono ?_; rw [hie.out]; rintro e w7 ⟨rfl, hb7⟩) | (go_at_call 22; (have hS := ‹_ ∧ Two 30 40 W col11 b3 b4 S4 S4 pa4 pcap4 qa4 qn4 qcap4 qs4 _›); refine (size_law _ _ _ _ _ hS.2.one okL).mono ?_; rw [hsz4]; rintro e w7 ⟨rfl, rfl⟩) | (go_at_call 23; (have hS := ‹_ ∧ Two 30 40 W col11 b3 b4 S4 S4 pa4 pcap4 qa4 qn4 qcap4 qs4 _›); refine (count_law _ _ _ _ _ hS.2.one okL).mono ?_; rintro e w7 ⟨rfl, rfl⟩) | (go_at_call 17; (have hS := ‹_ ∧ Two 30 40 W col11 b3 b4 S4 S4 pa4 pcap4 qa4 qn4 qcap4 qs4 _›); refine (pending_law _ _ _ _ _ hS.2.one okL hS.2.env.norm (by rw [hpe4.out]; simp)).mono ?_; rw [hse4.out]; rintro e w8 ⟨⟨a8, cap8, rfl, hs8⟩, hb8⟩))
          have hZ4 := ‹_ ∧ Two 30 40 W col11 b3 b4 S4 S4 pa4 pcap4 qa4 qn4 qcap4 qs4 _›
          have hbel4 := hZ4.2.env.bel
          go_wp2_with fail
          go_ret
          exact ⟨rfl, hbel4⟩
  | true =>
    have ok0 := new_Ok hf
    obtain ⟨f0, f1, f2, f3⟩ := fits_bounds hf
    have Hf := Lib.hid hf; clear hf
    go_enter Try.func5, Try.ntmps5
    go_wp2_with fail
    refine (lives_any _).mono ?_
    rintro e w1 ⟨rfl, k1⟩
    have E1 := (Env.refl W).below k1
    go_wp2_with fail
    refine (new_ok _ _ _ Hf.out (fun _ => 0) 10).mono ?_
    rintro e w2 ⟨⟨b, col, rfl, hb, h5, x5, m5⟩, k5⟩
    have E2 : Env W col w2 := E1.step (c := 10) ⟨x5, Chg.of_below k5, m5⟩ (by omega)
    go_wp2_with fail
    refine (refnew_ok _ _ _ Hf.out col 20).mono ?_
    rintro e w3 ⟨⟨b2, col3, rfl, hb2, h6, x6, m6⟩, k6⟩
    have st3 : Step 20 col col3 w2 w3 := ⟨x6, Chg.of_below k6, m6⟩
    have E3 : Env W col3 w3 := E2.step st3 (by omega)
    have h5' := st3.other (by omega) (by omega) h5
    obtain ⟨pa, pcap, qa, qn, qcap, qs, h6i⟩ := h6
    have hT : Two 10 20 W col3 b b2 (DS.new size count) (DS.new size count) pa pcap qa qn qcap qs w3 := ⟨h5', h6i, E3⟩
    have hTd := hT.same
    have c62 : w3.drew.cell? ⟨b2, 2, none⟩ = some (.slice pa (DS.new size count).platter.length pcap) := hTd.two.platter
    have hpe : Hid (((DS.new size count).platter == (DS.new size count).platter) = true) := by show _ = _; simp
    have hsz : (DS.new size count).size = size := rfl
    have hct : (DS.new size count).count = count := rfl
    generalize DS.new size count = S at *
    clear h5 h5' x5 x6 h6i st3 hT k5 k6 E1 E2 E3 k1
    go_wp2_with fail
    go_region_held3 (fun w' => w'.cell? ⟨b2, 2, none⟩ = some (.slice pa S.platter.length pcap) ∧ Two 10 20 W col3 b b2 S S pa pcap qa qn qcap qs w') (first | exact ⟨c62, hTd⟩ | assumption | exact Two.keep (by assumption) (by assumption)) (first | (go_at_call 20; (have hS := ‹_ ∧ Two 10 20 W col3 b b2 S S pa pcap qa qn qcap qs _›); refine (image_law _ _ _ _ _ hS.2.one ok0 hS.2.env.norm).mono ?_; rintro e w6 ⟨⟨a6, cap6, rfl, hs6⟩, hb6⟩) | (go_at_call 19; (have hS := ‹_ ∧ Two 10 20 W col3 b b2 S S pa pcap qa qn qcap qs _›); refine (sameBytes_any _ _ _ _ _ _ _ hs6.rd hS.2.two.plat.rd).mono ?_; rw [hpe.out]; rintro e wz ⟨rfl, hb7⟩) | (go_at_call 22; (have hS := ‹_ ∧ Two 10 20 W col3 b b2 S S pa pcap qa qn qcap qs _›); refine (size_law _ _ _ _ _ hS.2.one ok0).mono ?_; rw [hsz]; rintro e w8 ⟨rfl, rfl⟩) | (go_at_call 23; (have hS := ‹_ ∧ Two 10 20 W col3 b b2 S S pa pcap qa qn qcap qs _›); refine (count_law _ _ _ _ _ hS.2.one ok0).mono ?_; rw [hct]; rintro e w8 ⟨rfl, rfl⟩))
    have hZ := ‹_ ∧ Two 10 20 W col3 b b2 S S pa pcap qa qn qcap qs _›
    have Ez := hZ.2.env
    go_wp2_with (at_builtin; go_must (refine wpList_append_sl rfl _ _ 30 rfl 5 i0 (.int .u8 0) 1 1 Try.underlying30 hi hz0 hz1 hz2 rfl (fun _ => False) _ 0 [] rfl (SlAt.nil _ _ _ _ _) (Nil0 col3) _ img.length (bcells img) rfl ?_ (bcells_one _) ?_ ?_ ?_); exact (Ez.rd h2).below ((Below.refl _ _).alloc (Nat.le_refl _) _); (unfold maxLen; omega); omega; rintro v9 w9 hs9 hc9)
    have Ea : Env W col3 (wz.alloc (.cells #[] 5)) := Ez.below ((Below.refl _ _).alloc (Nat.le_refl _) _)
    have E9 : Env W col3 w9 := Ea.below (hc9.below (Nat.le_refl _) (fun i _ e => e))
    have hs9' : SlAt w9 (fun k => W.heap.size ≤ k ∧ col3 k = 0) 5 1 v9 img.length (bcells img) := by
      rw [Nat.zero_add, List.nil_append] at hs9
      refine hs9.mono (fun k _ e => ?_)
      rcases e with e | e
      · exact e.elim
      · exact ⟨by have := Ea.size; omega, Ea.norm k (by omega)⟩
    obtain ⟨a9, cap9, rfl⟩ := hs9'.shape
    have r9 : RdAt w9 (Nil0 col3) 1 (.slice a9 img.length cap9) img.length (bcells img) := hs9'.rd.mono (fun k _ e => e.2)
    clear hs9 hc9 Ea
    have hie : Hid ((img == img) = true) := by show _ = _; simp
    cases hlo : loadOk size img.length with
    | false =>
      have Hlo := Lib.hid hlo; clear hlo
      go_wp2_with fail
      refine (load_no _ _ _ _ _ r9 Hlo.out).mono ?_
      rintro e w' ⟨rfl, rfl⟩
      go_wp2_with fail
      refine (refload_no _ _ _ _ _ (E9.rd h2) Hlo.out).mono ?_
      rintro e w' ⟨rfl, rfl⟩
      go_wp2_with fail
      refine (sameBytes_any _ _ _ _ _ _ _ r9 (E9.rd h2)).mono ?_
      rw [hie.out]
      rintro e w10 ⟨rfl, k10⟩
      go_wp2_with fail
      go_ret
      exact ⟨rfl, (E9.below k10).bel⟩
    | true =>
      have okL := load_Ok hlo
      have Hlo := Lib.hid hlo; clear hlo
      go_wp2_with fail
      refine (load_ok _ _ _ _ _ r9 Hlo.out col3 30 (by omega)).mono ?_
      rintro e w10 ⟨⟨b3, col10, rfl, hb3, h10, x10, m10⟩, k10⟩
      have st10 : Step 30 col3 col10 w9 w10 := ⟨x10, Chg.of_below k10, m10⟩
      have E10 := E9.step st10 (by omega)
      have hs10 : SlAt w10 (fun k => W.heap.size ≤ k ∧ col10 k = 0) 5 1 (.slice a9 img.length cap9) img.length (bcells img) := hs9'.keep (fun k hk _ => k10.block k hk) (fun k hk e => ⟨e.1, (x10 k hk).trans e.2⟩)
      go_wp2_with fail
      refine (refload_ok _ _ _ _ _ (E10.rd h2) Hlo.out col10 40 (by omega)).mono ?_
      rintro e w11 ⟨⟨b4, col11, rfl, hb4, h11, x11, m11⟩, k11⟩
      have st11 : Step 40 col10 col11 w10 w11 := ⟨x11, Chg.of_below k11, m11⟩
      have E11 := E10.step st11 (by omega)
      have hd11 := st11.other (by omega) (by omega) h10
      have hs11 : SlAt w11 (fun k => W.heap.size ≤ k ∧ col11 k = 0) 5 1 (.slice a9 img.length cap9) img.length (bcells img) := hs10.keep (fun k hk _ => k11.block k hk) (fun k hk e => ⟨e.1, (x11 k hk).trans e.2⟩)
      clear st10 st11 r9 hs9' hs10 h10 E9 E10 x10 x11 m10 m11
      go_wp2_with fail
      refine (sameBytes_any _ _ _ _ _ _ _ hs11.rd (E11.rd h2)).mono ?_
      rw [hie.out]
      rintro e w12 ⟨rfl, k12⟩
      have E12 := E11.below k12
      have hd12 := hd11.below k12
      have hx12 := h11.below k12
      have hs12 := hs11.below k12
      clear E11 hd11 h11 hs11
      go_wp2_with fail
      go_loopw [12] (fun i wr => ∃ (k : Nat) (l' : List Int), k ≤ img.length ∧ i = .int .i64 k ∧ Env W col11 wr ∧ DiskAt wr 69 col11 30 b3 (DS.load size img) ∧ DiskAt wr 49 col11 40 b4 (DS.load size img) ∧ SlAt wr (fun k => W.heap.size ≤ k ∧ col11 k = 0) 5 1 (.slice a9 img.length cap9) img.length (bcells l') ∧ Hid (l'.length = img.length)) (fun i _ => img.length - (intOf i).toNat)
      case atStart => exact ⟨0, img, by omega, rfl, E12, hd12, hx12, hs12, rfl⟩
      case round =>
        obtain ⟨k, l', hk, rfl, E, hd, hx, hs, hl'⟩ := hrel
        by_cases hlt : k < img.length
        · obtain ⟨g, off, rfl, _, _, hjunk⟩ := hs.rd.get (by omega)
          clear hjunk
          have hkl : k < l'.length := by have := hl'.out; omega
          obtain ⟨hg, hgl, c1, f1, _⟩ := hs.poke hlt (.int .u8 0)
          rw [bcells_get hkl] at c1
          have i0' : (0 : Int) ≤ (k : Int) := by omega
          have i1' : (k : Int) < (img.length : Int) := by omega
          go_wp2
          have hp := (hs.poke hlt (.int .u8 (IntKind.u8.wrap (l'[k] + 1)))).2.2.2.2
          have hch : Chg (fun j => j = g) wr (wr.setCell ⟨g, off + k, none⟩ (.int .u8 (IntKind.u8.wrap (l'[k] + 1)))) := Chg.of_set _ _ _ _ rfl
          go_roundw
          case rel =>
            refine ⟨k + 1, l'.set k (IntKind.u8.wrap (l'[k] + 1)), by omega, by go_num, E.touch hch hg.1, hd.touch (by omega) hch hg.2, hx.touch (by omega) hch hg.2, ?_, by show _ = _; rw [List.length_set]; exact hl'.out⟩
            have e : bcells (l'.set k (IntKind.u8.wrap (l'[k] + 1))) = (bcells l').set k (.int .u8 (IntKind.u8.wrap (l'[k] + 1))) := by simp [bcells, List.map_set]
            rw [e]
            exact hp
          case measure => simp [intOf]; omega
        · obtain rfl : k = img.length := by omega
          obtain ⟨pa4, pcap4, qa4, qn4, qcap4, qs4, hxi⟩ := hx
          have hT4 : Two 30 40 W col11 b3 b4 (DS.load size img) (DS.load size img) pa4 pcap4 qa4 qn4 qcap4 qs4 wr := ⟨hd, hxi, E⟩
          have hTd4 := hT4.same
          have hpl : (DS.load size img).platter = img := rfl
          have hsz4 : (DS.load size img).size = size := rfl
          have hse4 : Hid ((DS.load size img).sectors = []) := rfl
          have hpe4 : Hid ((DS.load size img).pending = []) := rfl
          have c63 : wr.drew.cell? ⟨b4, 1, none⟩ = some (.int .i64 (DS.load size img).count) := hTd4.two.count
          generalize DS.load size img = S4 at *
          clear hT4 hxi hd E hs
          go_wp2_with fail
          go_region_held3 (fun w' => w'.cell? ⟨b4, 1, none⟩ = some (.int .i64 S4.count) ∧ Two 30 40 W col11 b3 b4 S4 S4 pa4 pcap4 qa4 qn4 qcap4 qs4 w') (first | exact ⟨c63, hTd4⟩ | assumption | exact Two.keepCount (by assumption) (by assumption)) (first | (go_at_call 20; (have hS := ‹_ ∧ Two 30 40 W col11 b3 b4 S4 S4 pa4 pcap4 qa4 qn4 qcap4 qs4 _›); refine (image_law _ _ _ _ _ hS.2.one okL hS.2.env.norm).mono ?_; rw [hpl]; rintro e w6 ⟨⟨a6, cap6, rfl, hs6⟩, hb6⟩) | (go_at_call 19; (have hS := ‹_ ∧ Two 30 40 W col11 b3 b4 S4 S4 pa4 pcap4 qa4 qn4 qcap4 qs4 _›); refine (sameBytes_any _ _ _ _ _ _ _ hs6.rd (hS.2.env.rd h2)).mono ?_; rw [hie.out]; rintro e w7 ⟨rfl, hb7⟩) | (go_at_call 22; (have hS := ‹_ ∧ Two 30 40 W col11 b3 b4 S4 S4 pa4 pcap4 qa4 qn4 qcap4 qs4 _›); refine (size_law _ _ _ _ _ hS.2.one okL).mono ?_; rw [hsz4]; rintro e w7 ⟨rfl, rfl⟩) | (go_at_call 23; (have hS := ‹_ ∧ Two 30 40 W col11 b3 b4 S4 S4 pa4 pcap4 qa4 qn4 qcap4 qs4 _›); refine (count_law _ _ _ _ _ hS.2.one okL).mono ?_; rintro e w7 ⟨rfl, rfl⟩) | (go_at_call 17; (have hS := ‹_ ∧ Two 30 40 W col11 b3 b4 S4 S4 pa4 pcap4 qa4 qn4 qcap4 qs4 _›); refine (pending_law _ _ _ _ _ hS.2.one okL hS.2.env.norm (by rw [hpe4.out]; simp)).mono ?_; rw [hse4.out]; rintro e w8 ⟨⟨a8, cap8, rfl, hs8⟩, hb8⟩))
          have hZ4 := ‹_ ∧ Two 30 40 W col11 b3 b4 S4 S4 pa4 pcap4 qa4 qn4 qcap4 qs4 _›
          have hbel4 := hZ4.2.env.bel
          go_wp2_with fail
          go_ret
          exact ⟨rfl, hbel4⟩
theorem open_bytesU {H : Type} {enc : TypeId × Value → H} {W : World} {base : Nat} {v : Value} {d : DataW H} {p : List MemPlace} (hv : Value.okWide Try.prog W .any base 30 v) (h : DataW.Trod enc Try.prog W 0 (fun _ => true) true 30 v d p) (hb : Rows.uptoBulk d ≤ 1048576) : ∃ l : List Int, BytesAt W (fun k => k < W.heap.size) v l ∧ l.length ≤ 1048576 := by
  obtain ⟨l, h, h2, _⟩ := open_bytes' hv h
  refine ⟨l, h, ?_⟩
  rcases h2 with ⟨_, rfl⟩ | ⟨r, rfl⟩
  · simp
  · simp only [Rows.uptoBulk] at hb
    have := bulkAll_len (Go.ChangeShapes.lits (H := H) .u8 l)
    simp only [Go.ChangeShapes.lits, List.length_map] at this
    simp only [Go.ChangeShapes.lits] at hb
    omega
end Go.Proofs.Ytlkebppmdbgdmaa
