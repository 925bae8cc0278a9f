/-
  The document's disk: put, Flush, Crash.
-/
import Derived.Test.YtjjgihaikcnjgaaDRef2
import Derived.Deep.QuietTactic
import Derived.BigQuiet
namespace Go.Proofs.Ytjjgihaikcnjgaa
open Go.RowKit
set_option linter.unusedSimpArgs false
set_option linter.unusedVariables false
set_option maxRecDepth 100000

set_option maxHeartbeats 1000000 in
theorem refput_any {w : World} {col : Nat → Nat} {c b : Nat} {t : DS} {pa : Option Addr} {pcap : Nat} {qa : Option Addr} {qn qcap : Nat} {qs : List Value} (h : DiskIn w 108 col c b t pa pcap qa qn qcap qs) (hc : 1 < c) (s0 : 512 ≤ t.size) (s1 : t.size ≤ 4096)
    (q : Int × List Int) (n0 : 0 ≤ q.1) (n1 : q.1 < 4096) (room : (q.1 * t.size).toNat + q.2.length ≤ t.platter.length) (hq : 0 < q.2.length) (hmax : t.platter.length ≤ 1073741824) (a' : Option Addr) (cap' : Nat) (hb : BytesAt w (fun k => col k = 1) (.slice a' q.2.length cap') q.2) :
    Calls Try.prog 95 #[.pointer (some ⟨b, 0, none⟩), .agg #[.int .i64 q.1, .slice a' q.2.length cap']] w fun e w' => e = .returned (.tuple #[]) ∧ DiskIn w' 108 col c b { t with platter := putP t.size t.platter q } pa pcap qa qn qcap qs ∧ Chg (inC col c) w w' := by
  obtain ⟨i0, hi, hz0, hz1, hz2⟩ := info_parts info5
  have c0 := h.size
  have c2 := h.platter
  have hbl := h.lt
  have hpl0 : 0 < t.platter.length := by omega
  obtain ⟨g, off, cur, rfl, hcg, hhg, hl1, hl2, hl3, hl4⟩ := h.placed hpl0
  obtain ⟨m0, m1⟩ := mul_bounds (a := q.1) (b := t.size) n0 (by omega) (by omega) s1
  have q1 : IntKind.i64.wrap (q.1 * t.size) = q.1 * t.size := IntWalk.i64_in _ (by omega)
  have b1 : q.1 * t.size ≤ (t.platter.length : Int) := by omega
  have hA := h.below ((Below.refl _ w).alloc (Nat.le_refl _) (.cells #[.int .i64 q.1, .slice a' q.2.length cap'] 88) |>.drew)
  have hbA := hb.below ((Below.refl _ w).alloc (Nat.le_refl _) (.cells #[.int .i64 q.1, .slice a' q.2.length cap'] 88) |>.drew)
  have hmin := Lib.hid (show Nat.min q.2.length (t.platter.length - (q.1 * t.size).toNat) = q.2.length from Nat.min_eq_left (by omega))
  have hgl := lt_of_block hhg
  have hne : ¬ pcap = (q.1 * t.size).toNat := by omega
  have Room := Lib.hid room
  have hput := Lib.hid (show putP t.size t.platter q = splice t.platter (q.1 * t.size).toNat q.2 from rfl)
  clear room
  go_enter Try.func95, Try.ntmps95
  go_wp2
  go_region_law (go_must (refine step_copy_sl rfl (.tmp 15) (.tmp 17) 34 34 rfl 5 i0 Try.underlying34 hi hz1 (fun k => col k = 1) _ q.2.length (bcells q.2) rfl ?_ (bcells_one _) _ g (off + (q.1 * t.size).toNat) (t.platter.length - (q.1 * t.size).toNat) _ cur 5 rfl ?_ ?_); exact hbA; exact fun _ => ⟨rfl, block_old _ hhg, (by rw [hmin.out]; have := Room.out; omega)⟩; rintro w7 c7 _ k7)
  all_goals go_wp2
  all_goals go_end0
  all_goals
    have hg6 := block_old (.cells #[.int .i64 q.1, .slice a' q.2.length cap'] 88) hhg
    rw [hmin.out, List.take_of_length_le (by simp)] at c7
    have := hA.copied hc hg6 hcg hl3 hl1 hl2 hl4 (q.1 * t.size).toNat q.2 (by have := Room.out; omega) k7 (c7 hq)
    rw [hput.out]
    refine ⟨rfl, this, ?_⟩
    have k0 : Chg (inC col c) w ((w.alloc (.cells #[.int .i64 q.1, .slice a' q.2.length cap'] 88)).drew) := Chg.of_below ((Below.refl _ w).alloc (Nat.le_refl _) _ |>.drew)
    exact k0.trans (k7.mono (fun i _ e => by subst e; unfold inC; omega))

theorem ok_left {t : DS} (ok : t.norm.Ok) : t.stops = true → 0 ≤ t.left ∧ t.left ≤ 9223372036854775807 := fun h => by
  have := ok.left
  simp only [DS.norm, h, if_true] at this
  exact this
set_option maxHeartbeats 1000000 in
theorem refflush_any (w : World) (col : Nat → Nat) (c b : Nat) (s : DS) (h : DiskAt w 108 col c b s) (hc : 1 < c) (ok : s.norm.Ok) (hp : s.pending.length ≤ 1073741824) :
    Calls Try.prog 82 #[.pointer (some ⟨b, 0, none⟩)] w fun e w' => e = .returned (.int .i64 s.pending.length) ∧ DiskAt w' 108 col c b s.flush ∧ Chg (inC col c) w w' := by
  obtain ⟨pa, pcap, qa, qn, qcap, qs, h⟩ := h
  have hin : inC col c b := by unfold inC; have := h.color; omega
  have c3 := h.pending
  have hqn := Lib.hid h.len
  have hq1 : qn ≤ 1073741824 := by have := hqn.out; omega
  have hg := Lib.hid (refgone_any h hc (ok_left ok))
  have hlen0 : (qn : Int) = (s.pending.length : Int) := by rw [hqn.out]
  rw [← hlen0]
  clear hlen0
  cases ha : s.alive with
  | false =>
    have et : s.tick = s := by cases s; simp_all [DS.alive, DS.tick]
    have e : s.flush = s := by simp [DS.flush, ha]
    rw [ha, et] at hg
    rw [e]
    clear ha e et
    go_enter Try.func82, Try.ntmps82
    go_wp2_with (go_at_call 94; refine hg.out.mono ?_; rintro e w1 ⟨rfl, h1, k1⟩)
    go_ret
    exact ⟨rfl, h1.at, k1⟩
  | true =>
    have e : s.flush = { s.tick with platter := s.pending.foldl (putP s.size) s.platter, pending := [], flushes := wrap64 (s.flushes + 1) } := by simp [DS.flush, ha]
    rw [ha] at hg
    rw [e]
    clear ha e
    go_enter Try.func82, Try.ntmps82
    go_wp2_with (go_at_call 94; refine hg.out.mono ?_; rintro e w1 ⟨rfl, h1, k1⟩)
    go_loopw [4] (fun i wr => ∃ k : Nat, k ≤ qn ∧ i = .int .i64 k ∧ DiskIn wr 108 col c b { s.tick with platter := (s.pending.take k).foldl (putP s.size) s.platter } pa pcap qa qn qcap qs ∧ Chg (inC col c) w wr) (fun i _ => qn - (intOf i).toNat)
    case atStart => exact ⟨0, by omega, rfl, h1, k1⟩
    case round =>
      obtain ⟨k, hk, rfl, hr, kr⟩ := hrel
      have d3 := hr.pending
      by_cases hlt : k < qn
      · have hkp : k < s.pending.length := by have := hqn.out; omega
        obtain ⟨n0, n1, n2⟩ := ok.pend _ (List.getElem_mem hkp)
        have hstep := Lib.hid (foldl_take (putP s.size) s.platter k hkp)
        have hfl : ((s.pending.take k).foldl (putP s.size) s.platter).length = s.platter.length := foldl_len ok (s.pending.take k) (fun p hp => List.mem_of_mem_take hp) s.platter rfl
        generalize (s.pending.take k).foldl (putP s.size) s.platter = pl at *
        have hroom : ((s.pending[k]).1 * s.size).toNat + (s.pending[k]).2.length ≤ s.platter.length := ok.room n0 n1 n2
        have hsz0 : 512 ≤ s.size := ok.size0
        have hsz1 : s.size ≤ 4096 := ok.size1
        have hct1 : s.count ≤ 4096 := ok.count1
        have n2' : ((s.pending[k]).2.length : Int) = s.size := n2
        have n1' : (s.pending[k]).1 < s.count := n1
        have hplen : (s.platter.length : Int) = s.size * s.count := ok.plen
        obtain ⟨m0, m1⟩ := mul_bounds (a := s.size) (b := s.count) (by omega) hsz1 (by have : 1 ≤ s.count := ok.count0; omega) hct1
        obtain ⟨gq, offq, rfl, _, hgq, hcs⟩ := hr.list.rd.get (by omega)
        obtain ⟨a', n', cap', e1, e2, e3⟩ := PendC.get hr.pend k hkp
        have x1 := hcs _ _ e1
        have x2 : wr.cell? ⟨gq, offq + k * 2 + 1, none⟩ = some (.slice a' n' cap') := hcs _ _ e2
        have hn' : n' = (s.pending[k]).2.length := by obtain ⟨_, _, _, e, _⟩ := e3; injection e
        simp only [DS.tick] at x1 x2 e3 e1 e2
        generalize hq : s.pending[k] = q at *
        have Hq := Lib.hid hq
        clear hq hcs e1 e2
        subst hn'
        have hput := refput_any hr hc hsz0 hsz1 q n0 (by omega) (by show (q.1 * s.size).toNat + q.2.length ≤ pl.length; omega) (by omega) (by show pl.length ≤ 1073741824; omega) a' cap' e3
        have Hfl := Lib.hid hfl
        have j0 : (0 : Int) ≤ (k : Int) := by omega
        have j1 : (k : Int) < (qn : Int) := by omega
        clear hplen hfl n2 n2' hroom m0 m1
        go_wp2_with fail
        refine hput.mono ?_
        rintro e w6 ⟨rfl, h6, k6⟩
        go_wp2_with fail
        go_roundw
        case rel =>
          refine ⟨k + 1, by omega, by go_num, ?_, kr.trans k6⟩
          rw [hstep.out]
          exact h6
        case measure => simp [intOf]; omega
      · obtain rfl : k = qn := by omega
        have etake : Hid (s.pending.take k = s.pending) := by show _ = _; rw [hqn.out]; exact List.take_length
        have hcl := hr.cleared hc
        have kcl := kr.trans (Chg.of_set wr b 3 (.slice none 0 0) hin)
        have f3 := hr.free 3
        have c6 := hcl.flushes
        have f6 := hcl.free 6
        go_wp2_with fail
        go_ret
        have h7 := hcl.store hc { s.tick with platter := s.pending.foldl (putP s.size) s.platter, pending := [], flushes := wrap64 (s.flushes + 1) } 6 (.int .i64 (wrap64 (s.flushes + 1))) (by rw [etake.out]; rfl) (by rw [etake.out]) rfl
        exact ⟨rfl, h7.at, kcl.trans (Chg.of_set _ _ _ _ hin)⟩
end Go.Proofs.Ytjjgihaikcnjgaa
