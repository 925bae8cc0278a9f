/-
  The document's disk: Crash.
-/
import Derived.Test.YtlkebppmdbgdmaaRef3
namespace Go.Proofs.Ytlkebppmdbgdmaa
open Go.RowKit
set_option linter.unusedSimpArgs false
set_option linter.unusedVariables false

theorem nm52 : (Try.f52.name == "runtime.NumGoroutine") = false := by kernel_rfl
theorem bd52 : Try.f52.body.isNone = false := by kernel_rfl
def RefCrashTells (col : Nat → Nat) (c b : Nat) (s : DS) (keep : List Int) (w : World) (e : Ending) (w' : World) : Prop :=
  (¬ KeepOk s.pending.length keep ∧ e = .returned (.int .i64 1) ∧ Below w.heap.size w w') ∨
  (KeepOk s.pending.length keep ∧ e = .returned (.int .i64 0) ∧ DiskAt w' 49 col c b (s.crash keep) ∧ Chg (inC col c) w w')

theorem below_drewN {B : Nat} {a b : World} (h : Below B a b) (n : Nat) : Below B a (b.drewN n) := h.trans ⟨rfl, rfl, rfl, Nat.le_refl _, fun _ _ => rfl⟩
set_option maxHeartbeats 2000000 in
theorem refcrash_any (w : World) (col : Nat → Nat) (c b : Nat) (s : DS) (own : Nat → Prop) (v : Value) (keep : List Int) (h : DiskAt w 49 col c b s) (hc : 1 < c) (ok : s.norm.Ok) (hp : s.pending.length ≤ 1073741824)
    (hv : IntsAt w own v keep) (ho : ∀ k, own k → ¬ inC col c k) :
    Calls Try.prog 47 #[.pointer (some ⟨b, 0, none⟩), v] w fun e w' => RefCrashTells col c b s keep w e w' := by
  obtain ⟨pa, pcap, qa, qn, qcap, qs, h⟩ := h
  obtain ⟨a, cap, rfl, hmax⟩ := RdAt.shape hv
  unfold maxLen at hmax
  have hin : inC col c b := by unfold inC; have := h.color; omega
  have hqn := Lib.hid h.len
  have hq1 : qn ≤ 1073741824 := by have := hqn.out; omega
  rw [← hqn.out] at hp
  unfold RefCrashTells
  rw [← hqn.out]
  go_enter Try.func47, Try.ntmps47
  go_wp2_with fail
  go_loopw [5] (fun i wr => ∃ k : Nat, k ≤ keep.length ∧ i = .int .i64 k ∧ Hid (KeepTo qn keep k) ∧ Below w.heap.size w wr) (fun i _ => keep.length - (intOf i).toNat)
  case atStart => exact ⟨0, by omega, rfl, (fun i hi hik => by omega), Below.refl _ _⟩
  case round =>
    obtain ⟨k, hk, rfl, hto, hbw⟩ := hrel
    have c3 := (h.below hbw).pending
    by_cases hlt : k < keep.length
    · obtain ⟨g, off, rfl, _, hg, hcs⟩ := (hv.below hbw).get (by omega)
      have x1 := hcs k _ (icells_get hlt)
      have i0 : (0 : Int) ≤ (k : Int) := by omega
      have i1 : (k : Int) < (keep.length : Int) := by omega
      by_cases h0 : keep[k] < 0
      · have hbad : ¬ KeepOk qn keep := fun hk' => by have := (hk' k hlt).1; omega
        have Hbad := Lib.hid hbad
        have hd0 : decide (keep[k] < 0) = true := by simp [h0]
        clear hcs hbad hto
        go_wp2_with fail
        go_quiet (fail)
        go_wp2
        go_ret
        exact Or.inl ⟨Hbad.out, rfl, below_drewN hbw _⟩
      · have hd0 : decide (keep[k] < 0) = false := by simp [h0]
        by_cases h1 : keep[k] < qn
        · have hd1 : decide ((qn : Int) ≤ keep[k]) = false := by simp; omega
          by_cases hk0 : 0 < k
          · have x2 := hcs (k - 1) _ (icells_get (by omega : k - 1 < keep.length))
            have hd2 : decide ((0 : Int) < (k : Int)) = true := by simp; omega
            have e1 : ((k : Int) - 1).toNat = k - 1 := by omega
            have e2 : IntKind.i64.wrap ((k : Int) - 1) = (k : Int) - 1 := IntWalk.i64_in _ (by omega)
            have e3 : (0 : Int) ≤ (k : Int) - 1 := by omega
            have e4 : (k : Int) - 1 < (keep.length : Int) := by omega
            by_cases h2 : keep[k - 1] < keep[k]
            · have hto' := Lib.hid (hto.out.succ hlt (by omega) h1 (fun _ => h2))
              have hd3 : decide (keep[k] ≤ keep[k - 1]) = false := by simp; omega
              clear hcs hto h2 h1 h0
              go_wp2_with fail
              go_quiet (fail)
              go_wp2
              go_roundw
              case rel => exact ⟨k + 1, by omega, by go_num, hto', below_drewN hbw _⟩
              case measure => simp [intOf]; omega
            · have hbad : ¬ KeepOk qn keep := fun hk' => h2 ((hk' k hlt).2.2 hk0)
              have Hbad := Lib.hid hbad
              have hd3 : decide (keep[k] ≤ keep[k - 1]) = true := by simp; omega
              clear hcs hbad hto h2 h1 h0
              go_wp2_with fail
              go_quiet (fail)
              go_wp2
              go_ret
              exact Or.inl ⟨Hbad.out, rfl, below_drewN hbw _⟩
          · have hto' := Lib.hid (hto.out.succ hlt (by omega) h1 (fun h => absurd h hk0))
            have hd2 : decide ((0 : Int) < (k : Int)) = false := by simp; omega
            clear hcs hto h1 h0
            go_wp2_with fail
            go_quiet (fail)
            go_wp2
            go_roundw
            case rel => exact ⟨k + 1, by omega, by go_num, hto', below_drewN hbw _⟩
            case measure => simp [intOf]; omega
        · have hbad : ¬ KeepOk qn keep := fun hk' => h1 (hk' k hlt).2.1
          have Hbad := Lib.hid hbad
          have hd1 : decide ((qn : Int) ≤ keep[k]) = true := by simp; omega
          clear hcs hbad hto h1 h0
          go_wp2_with fail
          go_quiet (fail)
          go_wp2
          go_ret
          exact Or.inl ⟨Hbad.out, rfl, below_drewN hbw _⟩
    · obtain rfl : k = keep.length := by omega
      have hok : Hid (KeepOk qn keep) := fun i hi => hto.out i hi hi
      clear hto
      have hmem := kept_mem (s := s) (keep := keep) (by rw [← hqn.out]; exact hok.out)
      have hB := h.below hbw
      have vB := hv.below hbw
      go_wp2_with fail
      go_loopw [6] (fun i wq => ∃ j : Nat, j ≤ keep.length ∧ i = .int .i64 j ∧ DiskIn wq 49 col c b { s with platter := ((s.kept keep).take j).foldl (putP s.size) s.platter } pa pcap qa qn qcap qs ∧ Chg (inC col c) w wq) (fun i _ => keep.length - (intOf i).toNat)
      case atStart => exact ⟨0, by omega, rfl, hB, Chg.of_below hbw⟩
      case round =>
        obtain ⟨j, hj, rfl, hr, kr⟩ := hrel
        have d3 := hr.pending
        by_cases hlt2 : j < keep.length
        · have hjk : j < (s.kept keep).length := by simpa [DS.kept] using hlt2
          obtain ⟨kk0, kk1, _⟩ := hok.out j hlt2
          have hidx : (keep[j]).toNat < s.pending.length := by have := hqn.out; omega
          obtain ⟨n0, n1, n2⟩ := ok.pend _ (List.getElem_mem hidx)
          have hgetk : (s.kept keep)[j] = s.pending[(keep[j]).toNat] := by
            simp only [DS.kept, List.getElem_map, List.getD_eq_getElem?_getD, List.getElem?_eq_getElem hidx]; rfl
          have hstep := Lib.hid (foldl_take (putP s.size) s.platter j hjk)
          rw [hgetk] at hstep
          have hfl : (((s.kept keep).take j).foldl (putP s.size) s.platter).length = s.platter.length := foldl_len ok ((s.kept keep).take j) (fun p hp => hmem p (List.mem_of_mem_take hp)) s.platter rfl
          generalize ((s.kept keep).take j).foldl (putP s.size) s.platter = pl at *
          have hroom : ((s.pending[(keep[j]).toNat]).1 * s.size).toNat + (s.pending[(keep[j]).toNat]).2.length ≤ s.platter.length := ok.room n0 n1 n2
          have hsz0 : 512 ≤ s.size := ok.size0
          have hsz1 : s.size ≤ 4096 := ok.size1
          have hct1 : s.count ≤ 4096 := ok.count1
          have n2' : ((s.pending[(keep[j]).toNat]).2.length : Int) = s.size := n2
          have n1' : (s.pending[(keep[j]).toNat]).1 < s.count := n1
          have hplen : (s.platter.length : Int) = s.size * s.count := ok.plen
          obtain ⟨m0, m1⟩ := mul_bounds (a := s.size) (b := s.count) (by omega) hsz1 (by have : 1 ≤ s.count := ok.count0; omega) hct1
          obtain ⟨gq, offq, rfl, _, hgq, hcs⟩ := hr.list.rd.get (by omega)
          obtain ⟨a', n', cap', e1, e2, e3⟩ := PendC.get hr.pend _ hidx
          have x1 := hcs _ _ e1
          have x2 : World.cell? _ ⟨gq, offq + (keep[j]).toNat * 2 + 1, none⟩ = some (.slice a' n' cap') := hcs _ _ e2
          have hn' : n' = (s.pending[(keep[j]).toNat]).2.length := by obtain ⟨_, _, _, e, _⟩ := e3; injection e
          obtain ⟨gk, ok', rfl, hgo, hgk, hks⟩ := hv.get (by omega)
          have xk := kr.cellOf (hks j _ (icells_get hlt2)) (ho _ hgo)
          generalize hq : s.pending[(keep[j]).toNat] = q at *
          have Hq := Lib.hid hq
          clear hq hcs e1 e2 hks
          subst hn'
          generalize hkj : keep[j] = kj at *
          have Hkj := Lib.hid hkj
          clear hkj
          have hput := fun (w2 : World) (hb2 : Below _ _ w2) => refput_any (hr.below hb2) hc hsz0 hsz1 q n0 (by omega) (by show (q.1 * s.size).toNat + q.2.length ≤ pl.length; omega) (by omega) (by show pl.length ≤ 1073741824; omega) a' cap' (e3.below hb2)
          have Hfl := Lib.hid hfl
          have j0 : (0 : Int) ≤ (j : Int) := by omega
          have j1 : (j : Int) < (keep.length : Int) := by omega
          have j2 : kj < (qn : Int) := by omega
          clear hplen hfl n2 n2' hroom m0 m1
          go_wp2_with fail
          go_region_law (first | (refine step_call_fn rfl 52 Try.f52 _ _ rfl Try.func52 nm52 bd52 #[.pointer (some ⟨b, 0, none⟩), .agg #[.int .i64 q.1, .slice a' q.2.length cap']] ?_ ?_; go_must (simp [Act.eval, Act.put]); go_must (refine (hput _ (Below.refl _ _).drew).mono ?_); go_must (rintro e w6 ⟨rfl, h6, k6⟩); go_must (refine ⟨_, rfl, ?_⟩)))
          all_goals go_wp2
          all_goals go_roundw
          all_goals first
            | (case rel =>
                refine ⟨j + 1, by omega, by go_num, ?_, kr.trans k6.undrew⟩
                rw [hstep.out]
                exact h6)
            | (case measure => simp [intOf]; omega)
        · obtain rfl : j = keep.length := by omega
          have f3 := hr.free 3
          have g3 := hr.pending
          have f7 := hr.free 7
          have g7 := hr.stops
          have f8 := hr.free 8
          have g8 := hr.left
          have hb := Lib.hid (List.take_of_length_le (l := s.kept keep) (i := keep.length) (by simp [DS.kept]))
          go_wp2
          go_ret
          rw [hb.out] at hr
          have hd := ((hr.cleared hc).store hc { s with platter := (s.kept keep).foldl (putP s.size) s.platter, pending := [], stops := false } 7 _ rfl rfl rfl).store hc (s.crash keep) 8 _ rfl rfl rfl
          exact Or.inr ⟨hok.out, rfl, hd.at, ((kr.trans (Chg.of_set _ _ _ _ hin)).trans (Chg.of_set _ _ _ _ hin)).trans (Chg.of_set _ _ _ _ hin)⟩
end Go.Proofs.Ytlkebppmdbgdmaa
