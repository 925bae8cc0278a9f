/-
  The document's disk: Off, Stop, gone, Pending, Write. 'norm': where the power is not limited, what is left of it says nothing.
-/
import Derived.Test.YtjjgihaikcnjgaaDRef1
import Derived.Deep.RegionHeld3
namespace Go.Proofs.Ytjjgihaikcnjgaa
open Go.RowKit
set_option linter.unusedSimpArgs false
set_option linter.unusedVariables false
set_option maxRecDepth 100000

def DS.norm (t : DS) : DS := { t with left := if t.stops then t.left else 0 }
theorem norm_off (t : DS) : t.norm.off = t.off := by simp only [DS.norm, DS.off]; cases t.stops <;> simp
theorem norm_alive (t : DS) : t.norm.alive = t.alive := by simp only [DS.norm, DS.alive]; cases t.stops <;> simp
theorem norm_tick (t : DS) : t.tick.norm = t.norm.tick := by cases t with | mk a b c d e f g st l => cases st <;> simp [DS.norm, DS.tick]
theorem norm_fit (t : DS) (n : Int) (l : List Int) : t.norm.fit n l = t.fit n l := rfl
theorem norm_write (t : DS) (n : Int) (l : List Int) : (t.write n l).norm = t.norm.write n l := by
  simp only [DS.write, norm_alive, ← norm_tick]
  split <;> rfl
theorem norm_wrote (t : DS) (n : Int) (l : List Int) : (t.wrote n l).norm = t.norm.wrote n l := by
  by_cases hf : t.fit n l = true
  · simp only [DS.wrote, norm_fit, hf, if_true, norm_write]
  · simp only [DS.wrote, norm_fit, hf, if_false]; rfl
theorem norm_flush (t : DS) : t.flush.norm = t.norm.flush := by
  simp only [DS.flush, norm_alive, ← norm_tick]
  split <;> rfl
theorem norm_crash (t : DS) (keep : List Int) : (t.crash keep).norm = t.norm.crash keep := rfl
theorem norm_read (t : DS) : t.read.norm = t.norm.read := rfl
def DS.stopR (t : DS) (n : Int) : DS := { t with stops := decide (0 ≤ n), left := n }
theorem norm_stop (t : DS) (n : Int) : (t.stopR n).norm = t.norm.stop n := by
  simp only [DS.stopR, DS.norm, DS.stop]
  by_cases h : 0 ≤ n
  · have : ¬ n < 0 := by omega
    simp [h, this]
  · have : n < 0 := by omega
    simp [h, this]

section
variable {w : World} {col : Nat → Nat} {c b : Nat} {t : DS} {pa : Option Addr} {pcap : Nat} {qa : Option Addr} {qn qcap : Nat} {qs : List Value}
theorem refoff_any (h : DiskIn w 108 col c b t pa pcap qa qn qcap qs) :
    Calls Try.prog 101 #[.pointer (some ⟨b, 0, none⟩)] w fun e w' => e = .returned (.bool t.off) ∧ w = w' := by
  have h1 := h.stops
  have h2 := h.left
  unfold DS.off
  cases hst : t.stops
  all_goals
    rw [hst] at h1
    clear hst
    go_enter Try.func101, Try.ntmps101
    go_wp2
    go_ret
    exact ⟨by simp, rfl⟩
theorem refgone_any (h : DiskIn w 108 col c b t pa pcap qa qn qcap qs) (hc : 1 < c) (hl : t.stops = true → 0 ≤ t.left ∧ t.left ≤ 9223372036854775807) :
    Calls Try.prog 94 #[.pointer (some ⟨b, 0, none⟩)] w fun e w' => e = .returned (.bool (!t.alive)) ∧ DiskIn w' 108 col c b t.tick pa pcap qa qn qcap qs ∧ Chg (inC col c) w w' := by
  have h1 := h.stops
  have h2 := h.left
  have f1 := h.free 8
  have hin : inC col c b := by unfold inC; have := h.color; omega
  cases hst : t.stops with
  | false =>
    rw [hst] at h1
    have e : t.tick = t := by cases t; simp_all [DS.tick]
    have e2 : t.alive = true := by simp [DS.alive, hst]
    have e3 : Hid (t.off = false) := by show _ = _; simp [DS.off, hst]
    rw [e, e2]
    clear hst e e2 hl
    go_enter Try.func94, Try.ntmps94
    go_wp2_with (go_at_call 101; refine (refoff_any h).mono ?_; rw [e3.out]; rintro e w' ⟨rfl, rfl⟩)
    go_ret
    exact ⟨rfl, h, Chg.refl _ _⟩
  | true =>
    obtain ⟨hl0, hl1⟩ := hl hst
    rw [hst] at h1
    by_cases hz : t.left = 0
    · have e : t.tick = t := by cases t; simp_all [DS.tick]
      have e2 : t.alive = false := by simp [DS.alive, hz, hst]
      have e3 : Hid (t.off = true) := by show _ = _; simp [DS.off, hst, hz]
      rw [e, e2]
      clear hst e e2 hz hl
      go_enter Try.func94, Try.ntmps94
      go_wp2_with (go_at_call 101; refine (refoff_any h).mono ?_; rw [e3.out]; rintro e w' ⟨rfl, rfl⟩)
      go_ret
      exact ⟨rfl, h, Chg.refl _ _⟩
    · have hp : 1 ≤ t.left := by omega
      have e : t.tick = { t with left := t.left - 1 } := by simp [DS.tick, hz, hst]
      have e2 : t.alive = true := by simp [DS.alive, hz, hst]
      have e3 : Hid (t.off = false) := by show _ = _; simp [DS.off, hst, hz]
      rw [e, e2]
      clear hst e e2 hz hl
      go_enter Try.func94, Try.ntmps94
      go_wp2_with (go_at_call 101; refine (refoff_any h).mono ?_; rw [e3.out]; rintro e w' ⟨rfl, rfl⟩)
      go_ret
      exact ⟨rfl, h.store hc _ 8 _ rfl rfl rfl, Chg.of_set _ _ _ _ hin⟩
end

set_option maxHeartbeats 400000 in
theorem refpending_any (w : World) (col : Nat → Nat) (c b : Nat) (s : DS) (h : DiskAt w 108 col c b s) (hp : s.pending.length ≤ 1073741824) :
    Calls Try.prog 63 #[.pointer (some ⟨b, 0, none⟩)] w fun e w' => IntsOf w s.sectors e w' ∧ Below w.heap.size w w' := by
  obtain ⟨pa, pcap, qa, qn, qcap, qs, h⟩ := h
  obtain ⟨i0, hi, hz0, hz1, hz2⟩ := info_parts info3
  have hqn := Lib.hid h.len
  have hq1 : qn ≤ 1073741824 := by have := hqn.out; omega
  have hbl := h.lt
  go_enter Try.func63, Try.ntmps63
  go_wp2
  go_loopw [3, 4] (fun v i wr => ∃ k : Nat, k ≤ qn ∧ i = .int .i64 k ∧ SlAt wr (fun j => w.heap.size ≤ j) 3 1 v k ((s.sectors.take k).map (Value.int .i64)) ∧ Below w.heap.size w wr) (fun _ i _ => qn - (intOf i).toNat)
  case atStart => exact ⟨0, by omega, rfl, by simpa using SlAt.nil _ _ _ _ _, Below.refl _ _⟩
  case round =>
    obtain ⟨k, hk, rfl, hsl, hbw⟩ := hrel
    have c3 := (h.below hbw).pending
    by_cases hlt : k < qn
    · obtain ⟨g, off, rfl, _, hg, hcs⟩ := (h.list.rd.below hbw).get (by omega)
      obtain ⟨a', n', cap', e1, e2, _⟩ := PendC.get h.pend k (by have := hqn.out; omega)
      have x1 := hcs _ _ e1
      have hnx : Hid (s.sectors.take (k + 1) = s.sectors.take k ++ [(s.pending[k]'(by have := hqn.out; omega)).1]) := by
        have hl : k < s.sectors.length := by have := hqn.out; simp [DS.sectors]; omega
        show _ = _
        rw [List.take_succ_eq_append_getElem hl]
        simp [DS.sectors]
      generalize (s.pending[k]'(by have := hqn.out; omega)).1 = N at *
      clear hcs e1 e2
      have hsz := hbw.size
      have j0 : (0 : Int) ≤ (k : Int) := by omega
      have j1 : (k : Int) < (qn : Int) := by omega
      obtain ⟨av, capv, rfl⟩ := hsl.shape
      go_wp2_with (at_builtin; go_must (refine wpList_append_sl rfl _ _ 45 rfl 3 i0 (.int .i64 0) 1 8 Try.underlying45 hi hz0 hz1 hz2 rfl (fun j => w.heap.size ≤ j) _ k ((s.sectors.take k).map (Value.int .i64)) rfl ?_ (fun j => j = wr.heap.size) _ 1 [.int .i64 N] rfl ?_ ?_ ?_ ?_ ?_); exact hsl.below ((Below.refl _ _).alloc (Nat.le_refl _) _); exact rd_newG (by simp) rfl (by unfold maxLen; omega); simp [Value.oneCell']; (unfold maxLen; omega); omega; intro v' w' hs' hc')
      go_roundw
      case rel =>
        refine ⟨k + 1, by omega, by go_num, ?_, hbw.trans (((Chg.refl (fun j => w.heap.size ≤ j) wr).alloc _).trans hc' |>.below hsz (fun i hi e => by omega))⟩
        rw [hnx.out, List.map_append]
        exact slAt_upto hs' (by simp; omega)
      case measure => simp [intOf]; omega
    · obtain rfl : k = qn := by omega
      go_wp2
      go_ret
      have e : s.sectors.length = k := by rw [hqn.out]; simp [DS.sectors]
      rw [List.take_of_length_le (by omega)] at hsl
      obtain ⟨av, capv, rfl⟩ := hsl.shape
      exact ⟨⟨av, capv, by rw [e]; rfl, by rw [e]; exact hsl⟩, hbw⟩

theorem refwrite_bad (w : World) (col : Nat → Nat) (c b : Nat) (s : DS) (n : Int) (own : Nat → Prop) (v : Value) (l : List Int) (h : DiskAt w 108 col c b s) (hv : BytesAt w own v l) (hn : ¬ (0 ≤ n ∧ n < s.count ∧ (l.length : Int) = s.size)) :
    Calls Try.prog 81 #[.pointer (some ⟨b, 0, none⟩), .int .i64 n, v] w fun e w' => e = .returned (.int .i64 30) ∧ w = w' := by
  obtain ⟨pa, pcap, qa, qn, qcap, qs, h⟩ := h
  obtain ⟨a, cap, rfl⟩ := hv.shape
  have c0 := h.size
  have c1 := h.count
  have hm : ∀ (x y : Int), x ≠ y → (x != y) = true := fun x y h => by simp [h]
  by_cases h0 : n < 0
  · clear hn hm
    go_enter Try.func81, Try.ntmps81
    go_wp2
    go_ret
    exact ⟨rfl, rfl⟩
  · by_cases h1 : s.count ≤ n
    · clear hn hm
      go_enter Try.func81, Try.ntmps81
      go_wp2
      go_ret
      exact ⟨rfl, rfl⟩
    · have h2 : ((l.length : Int) != s.size) = true := hm _ _ (fun e => hn ⟨by omega, by omega, e⟩)
      clear hn hm
      go_enter Try.func81, Try.ntmps81
      go_wp2
      go_ret
      exact ⟨rfl, rfl⟩

set_option maxHeartbeats 1000000 in
theorem refwrite_ok (w : World) (col : Nat → Nat) (c b : Nat) (s : DS) (n : Int) (own : Nat → Prop) (v : Value) (l : List Int) (h : DiskAt w 108 col c b s) (hc : 1 < c) (hl : s.stops = true → 0 ≤ s.left ∧ s.left ≤ 9223372036854775807)
    (hv : BytesAt w own v l) (hn0 : 0 ≤ n) (hn1 : n < s.count) (hlen : (l.length : Int) = s.size) (hsz : s.size ≤ 4096) (hp : s.pending.length ≤ 1073741824) (ho : ∀ k, own k → ¬ inC col c k) (hnm : Norm w col) :
    Calls Try.prog 81 #[.pointer (some ⟨b, 0, none⟩), .int .i64 n, v] w fun e w' => e = .returned (.int .i64 0) ∧ (∃ col', DiskAt w' 108 col' c b (s.write n l) ∧ Ext w.heap.size col col' ∧ Norm w' col') ∧ Chg (inC col c) w w' := by
  obtain ⟨pa, pcap, qa, qn, qcap, qs, h⟩ := h
  obtain ⟨a, cap, rfl⟩ := hv.shape
  obtain ⟨i0, hi, hz0, hz1, hz2⟩ := info_parts info88
  obtain ⟨j0, hj, jz0, jz1, jz2⟩ := info_parts info5
  have c0 := h.size
  have c1 := h.count
  have h2 : ((l.length : Int) != s.size) = false := by simp [hlen]
  have Hlen := Lib.hid hlen; clear hlen
  have h0' : ¬ n < 0 := by omega
  have h1' : ¬ s.count ≤ n := by omega
  cases ha : s.alive with
  | false =>
    have e : s.write n l = s := by simp [DS.write, ha]
    have et : s.tick = s := by cases s; simp_all [DS.alive, DS.tick]
    rw [e]
    have hg := Lib.hid (refgone_any h hc hl)
    rw [ha, et] at hg
    clear ha e et hl
    go_enter Try.func81, Try.ntmps81
    go_wp2_with (go_at_call 94; refine hg.out.mono ?_; rintro e w' ⟨rfl, h', hc'⟩)
    go_ret
    exact ⟨rfl, ⟨col, h'.at, Ext.refl _ _, hnm.grow hc'.size⟩, hc'⟩
  | true =>
    have e : s.write n l = { s.tick with writes := wrap64 (s.writes + 1), pending := s.pending ++ [(n, l)] } := by simp [DS.write, ha]
    rw [e]
    have hg := Lib.hid (refgone_any h hc hl)
    rw [ha] at hg
    clear ha e hl
    go_enter Try.func81, Try.ntmps81
    go_wp2_with (go_at_call 94; refine hg.out.mono ?_; rintro e w' ⟨rfl, h', hc'⟩)
    have hin : inC col c b := by unfold inC; have := h.color; omega
    have h5 := h'
    have k5 := hc'
    have hv5 := hv.chg k5 ho
    clear hg
    generalize w' = W5 at *
    clear hc' h'
    have b5 := h5.lt
    have p3 := h5.pending
    have f3 := h5.free 3
    have hlen5 : qn ≤ 1073741824 := by have := h5.len; simp only [DS.tick] at this; rw [this]; exact hp
    have hll : l.length ≤ 4096 := by have := Hlen.out; omega
    go_region_law (first | (refine step_append_sl rfl (.tmp 34) (.tmp 35) 34 rfl 5 j0 (.int .u8 0) 1 1 Try.underlying34 hj jz0 jz1 jz2 rfl (fun _ => False) _ 0 [] rfl (SlAt.nil _ _ _ _ _) own _ l.length (bcells l) rfl ?_ (bcells_one _) ?_ ?_ ?_; exact hv5.below ((Below.refl _ _).drew.alloc (Nat.le_refl _) _); (unfold maxLen; omega); omega; intro v6 w6 hs6 hc6; rw [Nat.zero_add, List.nil_append] at hs6; obtain ⟨a6, cap6, rfl⟩ := hs6.shape; (have hb6 : Below W5.heap.size W5 w6 := ((Below.refl W5.heap.size W5).drew.alloc (Nat.le_refl _) _).trans (hc6.below (by simp) (fun i _ e => e))); (have hr6 : BytesAt w6 (fun k => W5.heap.size ≤ k) (.slice a6 l.length cap6) l := hs6.rd.mono (fun k _ e => by rcases e with e | e; exact e.elim; simp at e; omega)); (have p36 := (hb6.cell (p := ⟨b, 3, none⟩) b5).trans p3); (have f36 := (hb6.frozen (p := ⟨b, 3, none⟩) b5).trans f3); (have b6 : b < w6.heap.size := Nat.lt_of_lt_of_le b5 hb6.size)) | (refine step_append_sl rfl (.tmp 32) (.tmp 38) 84 rfl 88 i0 (.agg #[.int .i64 0, .slice none 0 0]) 2 32 Try.underlying84 hi hz0 hz1 hz2 rfl (fun k => k < W5.heap.size ∧ col k = c + 2) _ qn qs rfl ?_ (fun k => k = w6.heap.size) _ 1 [.int .i64 n, .slice a6 l.length cap6] rfl ?_ ?_ ?_ ?_ ?_; exact (h5.list.mono (fun k hk e => ⟨hk, e⟩)).below (below_grow hb6 (Nat.le_refl _) ((Below.refl _ _).alloc (Nat.le_refl _) _)); exact rd_new _ _ _ _ _ rfl (by unfold maxLen; omega); simp [Value.oneCell']; (unfold maxLen; omega); omega; intro v7 w7 hs7 hc7; (have k67 := ((Chg.refl (fun k => k < W5.heap.size ∧ col k = c + 2) w6).alloc _).trans hc7); (have p37 := k67.cellOf p36 (by rintro ⟨_, e⟩; have := h5.color; simp only at e; omega)); (have f37 := k67.freeOf p36 f36 (by rintro ⟨_, e⟩; have := h5.color; simp only at e; omega)); obtain ⟨a7, cap7, rfl⟩ := hs7.shape))
    all_goals
      have hend := write_end h5 hc hb6 hr6 hc7 hs7
      obtain ⟨⟨col', ⟨pa8, pcap8, qa8, qn8, qcap8, qs8, hd8⟩, he8, hn8⟩, hk8⟩ := hend
      have hsz5 := k5.size
      have hcol8 : inC col c b := hin
      clear hs7 hc7 k67 p37 f37 p36 f36 hb6 hr6 hs6 hc6 hv5 p3 f3
      generalize w7.setCell ⟨b, 3, none⟩ (.slice a7 (qn + 1) cap7) = w8 at *
      have c5 := hd8.writes
      have f5 := hd8.free 5
    all_goals go_wp2
    all_goals go_ret
    all_goals
      have k8 := k5.trans hk8
      exact ⟨rfl, ⟨col', (hd8.store hc { s.tick with writes := wrap64 (s.writes + 1), pending := s.pending ++ [(n, l)] } 5 _ rfl rfl rfl).at, fun k hk => he8 k (by omega), hn8.grow (by simp)⟩, k8.trans (Chg.of_set _ _ _ _ hin)⟩
end Go.Proofs.Ytjjgihaikcnjgaa
