/-
  The walks of package disk: Flush without power, Crash.
-/
import Derived.Test.YtjjgihaikcnjgaaDWalks4
namespace Go.Proofs.Ytjjgihaikcnjgaa
open Go.RowKit
set_option linter.unusedSimpArgs false
set_option linter.unusedVariables false
set_option maxRecDepth 100000

theorem flush_no (w : World) (col : Nat → Nat) (c b : Nat) (s : DS) (pa : Option Addr) (pcap : Nat) (qa : Option Addr) (qn qcap : Nat) (qs : List Value) (h : DiskIn w 86 col c b s pa pcap qa qn qcap qs) (hc : 1 < c) (ok : s.Ok) (ha : s.alive = false) :
    Calls Try.prog 48 #[.pointer (some ⟨b, 0, none⟩)] w fun e w' => e = .returned (.int .i64 s.pending.length) ∧ DiskAt w' 86 col c b s.flush ∧ Chg (inC col c) w w' := by
  have hs : 0 < s.size := by have := ok.size0; omega
  have c3 := h.pending
  have hg := Lib.hid (goes_any h hc ok.left)
  have et : s.tick = s := by cases s; simp_all [DS.alive, DS.tick]
  rw [ha, et] at hg
  have e : s.flush = s := by simp [DS.flush, ha]
  rw [e]
  have hlen0 : (qn : Int) = (s.pending.length : Int) := by rw [h.len]
  rw [← hlen0]
  clear ha e et hlen0
  go_enter Try.func48, Try.ntmps48
  go_wp2_with (first | (go_at_call 41; refine (made_yes h hs).mono ?_; rintro e w' ⟨rfl, rfl⟩) | (go_at_call 73; refine hg.out.mono ?_; rintro e w1 ⟨rfl, h1, k1⟩))
  go_ret
  exact ⟨rfl, h1.at, k1⟩
theorem flush_any (w : World) (col : Nat → Nat) (c b : Nat) (s : DS) (h : DiskAt w 86 col c b s) (hc : 1 < c) (ok : s.Ok) (hp : s.pending.length ≤ 1073741824) :
    Calls Try.prog 48 #[.pointer (some ⟨b, 0, none⟩)] w fun e w' => e = .returned (.int .i64 s.pending.length) ∧ DiskAt w' 86 col c b s.flush ∧ Chg (inC col c) w w' := by
  obtain ⟨pa, pcap, qa, qn, qcap, qs, h⟩ := h
  cases ha : s.alive with
  | false => exact flush_no w col c b s pa pcap qa qn qcap qs h hc ok ha
  | true => exact flush_yes w col c b s pa pcap qa qn qcap qs h hc ok ha hp

/-- which of n may be kept -/
def KeepOk (n : Nat) (l : List Int) : Prop := ∀ i, (h : i < l.length) → 0 ≤ l[i] ∧ l[i] < n ∧ (0 < i → l[i - 1]'(by omega) < l[i])
def KeepTo (n : Nat) (l : List Int) (k : Nat) : Prop := ∀ i, (h : i < l.length) → i < k → 0 ≤ l[i] ∧ l[i] < n ∧ (0 < i → l[i - 1]'(by omega) < l[i])
theorem KeepTo.succ {n : Nat} {l : List Int} {k : Nat} (h : KeepTo n l k) (hk : k < l.length) (h0 : 0 ≤ l[k]) (h1 : l[k] < n) (h2 : 0 < k → l[k - 1]'(by omega) < l[k]) : KeepTo n l (k + 1) := by
  intro i hi hik
  by_cases e : i = k
  · subst e; exact ⟨h0, h1, h2⟩
  · exact h i hi (by omega)
def DS.kept (s : DS) (keep : List Int) : List (Int × List Int) := keep.map fun k => s.pending.getD k.toNat (0, [])
def DS.crash (s : DS) (keep : List Int) : DS := { s with platter := (s.kept keep).foldl (putP s.size) s.platter, pending := [], stops := false, left := 0 }
def CrashTells (col : Nat → Nat) (c b : Nat) (s : DS) (keep : List Int) (w : World) (e : Ending) (w' : World) : Prop :=
  (¬ KeepOk s.pending.length keep ∧ e = .returned (.int .i64 1) ∧ Below w.heap.size w w') ∨
  (KeepOk s.pending.length keep ∧ e = .returned (.int .i64 0) ∧ DiskAt w' 86 col c b (s.crash keep) ∧ Chg (inC col c) w w')
theorem kept_mem {s : DS} {keep : List Int} (h : KeepOk s.pending.length keep) : ∀ p ∈ s.kept keep, p ∈ s.pending := by
  intro p hp
  obtain ⟨k, hk, rfl⟩ := List.mem_map.1 hp
  obtain ⟨i, hi, rfl⟩ := List.mem_iff_getElem.1 hk
  obtain ⟨h0, h1, _⟩ := h i hi
  have : (keep[i]).toNat < s.pending.length := by omega
  rw [List.getD_eq_getElem?_getD, List.getElem?_eq_getElem this]
  exact List.getElem_mem this

set_option maxHeartbeats 2000000 in
theorem crash_any (w : World) (col : Nat → Nat) (c b : Nat) (s : DS) (own : Nat → Prop) (v : Value) (keep : List Int) (h : DiskAt w 86 col c b s) (hc : 1 < c) (ok : s.Ok) (hp : s.pending.length ≤ 1073741824)
    (hv : IntsAt w own v keep) (ho : ∀ k, own k → ¬ inC col c k) :
    Calls Try.prog 22 #[.pointer (some ⟨b, 0, none⟩), v] w fun e w' => CrashTells col c b s keep w e w' := by
  obtain ⟨pa, pcap, qa, qn, qcap, qs, h⟩ := h
  obtain ⟨i0, hi, hz0, hz1, hz2⟩ := info_parts info5
  obtain ⟨a, cap, rfl, hmax⟩ := RdAt.shape hv
  unfold maxLen at hmax
  have hin : inC col c b := by unfold inC; have := h.color; omega
  have hs : 0 < s.size := by have := ok.size0; omega
  have c3 := h.pending
  have hqn := Lib.hid h.len
  have hq1 : qn ≤ 1073741824 := by have := hqn.out; omega
  rw [← hqn.out] at hp
  unfold CrashTells
  rw [← hqn.out]
  go_enter Try.func22, Try.ntmps22
  go_wp2_with (go_at_call 41; refine (made_yes h hs).mono ?_; rintro e w' ⟨rfl, rfl⟩)
  go_loop [14] (fun i => ∃ k : Nat, k ≤ keep.length ∧ i = .int .i64 k ∧ Hid (KeepTo qn keep k)) (fun i => keep.length - (intOf i).toNat)
  case atStart => exact ⟨0, by omega, rfl, fun i hi hik => by omega⟩
  case round =>
    obtain ⟨k, hk, rfl, hto⟩ := hrel
    by_cases hlt : k < keep.length
    · obtain ⟨g, off, rfl, _, hg, hcs⟩ := hv.get (by omega)
      have x1 := hcs k _ (icells_get hlt)
      by_cases h0 : keep[k] < 0
      · have hbad : ¬ KeepOk qn keep := fun hk' => by have := (hk' k hlt).1; omega
        have Hbad := Lib.hid hbad
        clear hcs hbad
        go_wp2
        go_ret
        exact Or.inl ⟨Hbad.out, rfl, Below.refl _ _⟩
      · by_cases h1 : keep[k] < qn
        · by_cases hk0 : 0 < k
          · have x2 := hcs (k - 1) _ (icells_get (by omega : k - 1 < keep.length))
            have e1 : ((k : Int) - 1).toNat = k - 1 := by omega
            by_cases h2 : keep[k - 1] < keep[k]
            · have hto' := Lib.hid (hto.out.succ hlt (by omega) h1 (fun _ => h2))
              clear hcs hto
              go_wp2
              go_round
              case rel => exact ⟨k + 1, by omega, by go_num, hto'⟩
              case measure => simp [intOf]; omega
            · have hbad : ¬ KeepOk qn keep := fun hk' => h2 ((hk' k hlt).2.2 hk0)
              have Hbad := Lib.hid hbad
              clear hcs hbad hto
              go_wp2
              go_ret
              exact Or.inl ⟨Hbad.out, rfl, Below.refl _ _⟩
          · have hto' := Lib.hid (hto.out.succ hlt (by omega) h1 (fun h => absurd h hk0))
            obtain rfl : k = 0 := by omega
            have x0 : w.cell? ⟨g, off, none⟩ = some (.int .i64 keep[0]) := by simpa using x1
            clear hcs hto hk0 x1
            go_wp2
            go_round
            case rel => exact ⟨0 + 1, by omega, by go_num, hto'⟩
            case measure => simp [intOf]; omega
        · have hbad : ¬ KeepOk qn keep := fun hk' => h1 (hk' k hlt).2.1
          have Hbad := Lib.hid hbad
          clear hcs hbad hto
          go_wp2
          go_ret
          exact Or.inl ⟨Hbad.out, rfl, Below.refl _ _⟩
    · obtain rfl : k = keep.length := by omega
      have hok : Hid (KeepOk qn keep) := fun i hi => hto.out i hi hi
      clear hto
      have hmem := kept_mem (s := s) (keep := keep) (by rw [← hqn.out]; exact hok.out)
      go_wp2_with fail
      go_loopw [46] (fun i wr => ∃ j : Nat, j ≤ keep.length ∧ i = .int .i64 j ∧ DiskIn wr 86 col c b { s with platter := ((s.kept keep).take j).foldl (putP s.size) s.platter } pa pcap qa qn qcap qs ∧ Chg (inC col c) w wr) (fun i _ => keep.length - (intOf i).toNat)
      case atStart => exact ⟨0, by omega, rfl, h, Chg.refl _ _⟩
      case round =>
        obtain ⟨j, hj, rfl, hr, kr⟩ := hrel
        by_cases hlt2 : j < keep.length
        · have hjk : j < (s.kept keep).length := by simpa [DS.kept] using hlt2
          obtain ⟨kk0, kk1, _⟩ := hok.out j hlt2
          have hidx : (keep[j]).toNat < s.pending.length := by have := hqn.out; omega
          obtain ⟨n0, n1, n2⟩ := ok.pend _ (List.getElem_mem hidx)
          have hgetk : (s.kept keep)[j] = s.pending[(keep[j]).toNat] := by
            simp only [DS.kept, List.getElem_map, List.getD_eq_getElem?_getD, List.getElem?_eq_getElem hidx]; rfl
          have hstep := Lib.hid (foldl_take (putP s.size) s.platter j hjk)
          rw [hgetk] at hstep
          have hfl := foldl_len ok ((s.kept keep).take j) (fun p hp => hmem p (List.mem_of_mem_take hp)) s.platter rfl
          generalize ((s.kept keep).take j).foldl (putP s.size) s.platter = pl at *
          have hroom := ok.room n0 n1 n2
          have hsz0 := ok.size0
          have hplen := ok.plen
          have hpl0 : 0 < pl.length := by omega
          have hpe : (pl.length : Int) = s.size * s.count := by omega
          have hpend := hr.pend
          obtain ⟨g, off, cur, rfl, hcg, hhg, hl1, hl2, hl3, hl4⟩ := hr.placed hpl0
          obtain ⟨gk, offk, rfl, _, _, hck⟩ := (hv.chg kr ho).get (by omega)
          have x1 := hck j _ (icells_get hlt2)
          have c3r := hr.pending
          obtain ⟨gq, offq, rfl, _, hgq, hcs⟩ := hr.list.rd.get (by omega)
          obtain ⟨a', n', cap', e1, e2, e3⟩ := PendC.get hpend _ hidx
          have y1 := hcs _ _ e1
          have y2 : wr.cell? ⟨gq, offq + (keep[j]).toNat * 2 + 1, none⟩ = some (.slice a' n' cap') := hcs _ _ e2
          have hn' : n' = (s.pending[(keep[j]).toNat]).2.length := by obtain ⟨_, _, _, e, _⟩ := e3; injection e
          generalize hq : s.pending[(keep[j]).toNat] = q at *
          clear hq hcs e1 e2 hpend hck hgetk
          subst hn'
          generalize keep[j] = kk at *
          have hbr := hr.lt
          have hrA := hr.below ((Below.refl _ wr).drew)
          have hbA := e3.below ((Below.refl _ wr).drew)
          have hlen2 := Lib.hid (show q.2.length = s.size.toNat by omega)
          have Hpe := Lib.hid hpe
          have Hfl := Lib.hid hfl
          have hmin := Lib.hid (show Nat.min q.2.length s.size.toNat = q.2.length by rw [hlen2.out]; exact Nat.min_self _)
          clear n2 hpe hplen hfl
          go_wp2_with fail
          go_region_law (first | (refine step_call_fn rfl 50 Try.f50 _ _ rfl Try.func50 nm50 bd50 #[.pointer (some ⟨b, 0, none⟩), .int .i64 q.1] ?_ ?_; simp [Act.eval, Act.put]; go_must (refine (at_any2 hrA hsz0 ok.size1 ok.count1 n0 n1 Hpe.out).mono ?_); rintro e w6 ⟨rfl, hb6⟩; refine ⟨_, rfl, ?_⟩; (have z0 := (hb6.cell (p := ⟨b, 3, none⟩) hbr).trans c3r); (have z1 := (hb6.cell (p := ⟨gq, offq + kk.toNat * 2 + 1, none⟩) hgq).trans y2)) | (go_must (refine step_copy_sl rfl (.tmp 59) (.tmp 67) 34 34 rfl 5 i0 Try.underlying34 hi hz1 (fun k => col k = 1) _ q.2.length (bcells q.2) rfl ?_ (bcells_one _) _ g (off + (q.1 * s.size).toNat) s.size.toNat _ cur 5 rfl ?_ ?_); exact hbA.below hb6; exact fun _ => ⟨rfl, below_keeps hb6 hhg (lt_of_block hhg), (by rw [hmin.out]; have := Hfl.out; omega)⟩; rintro w7 c7 _ k7))
          all_goals go_wp2
          all_goals go_roundw
          all_goals first
            | (case rel =>
                refine ⟨j + 1, by omega, by go_num, ?_, ?_⟩
                · have h6 := hrA.below hb6
                  have hg6 : w6.heap[g]? = some (.cells cur 5 (0, 0)) := below_keeps hb6 hhg (lt_of_block hhg)
                  rw [hmin.out, List.take_of_length_le (by simp)] at c7
                  have := h6.copied hc hg6 hcg hl3 hl1 hl2 hl4 (q.1 * s.size).toNat q.2 (by have := Hfl.out; simp only; omega) k7 (c7 (by have := hlen2.out; omega))
                  rw [hstep.out]
                  exact this
                · refine kr.trans (((Chg.of_below (below_undrew hb6)).trans (k7.mono (fun i _ e => ?_))))
                  subst e; unfold inC; omega)
            | (case measure => simp [intOf]; omega)
        · obtain rfl : j = keep.length := by omega
          have f3 := hr.free 3
          have g3 := hr.pending
          have f7 := hr.free 7
          have g7 := hr.stops
          have f8 := hr.free 8
          have g8 := hr.left
          have hb := Lib.hid (List.take_of_length_le (l := s.kept keep) (i := keep.length) (by simp [DS.kept]))
          go_wp2
          go_ret
          rw [hb.out] at hr
          have hd := ((hr.cleared hc).store hc { s with platter := (s.kept keep).foldl (putP s.size) s.platter, pending := [], stops := false } 7 _ rfl rfl rfl).store hc (s.crash keep) 8 _ rfl rfl rfl
          exact Or.inr ⟨hok.out, rfl, hd.at, ((kr.trans (Chg.of_set _ _ _ _ hin)).trans (Chg.of_set _ _ _ _ hin)).trans (Chg.of_set _ _ _ _ hin)⟩
end Go.Proofs.Ytjjgihaikcnjgaa
