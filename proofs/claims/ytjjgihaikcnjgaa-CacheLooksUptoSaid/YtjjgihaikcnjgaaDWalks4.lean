/-
  The walks of package disk: Pending, Flush.
-/
import Derived.Test.YtjjgihaikcnjgaaDWalks3
namespace Go.Proofs.Ytjjgihaikcnjgaa
open Go.RowKit
set_option linter.unusedSimpArgs false
set_option linter.unusedVariables false
set_option maxRecDepth 100000

theorem info3 : (Try.prog.info? 3).map (fun i => (i.zero, i.size, i.bytes)) = some (some (.int .i64 0), 1, 8) := by kernel_rfl
def DS.sectors (s : DS) : List Int := s.pending.map Prod.fst
def IntsOf (w : World) (l : List Int) (e : Ending) (w' : World) : Prop :=
  ∃ a cap, e = .returned (.slice a l.length cap) ∧ SlAt w' (fun k => w.heap.size ≤ k) 3 1 (.slice a l.length cap) l.length (l.map (Value.int .i64))

theorem slAt_upto {w w' : World} {B : Nat} {e : TypeId} {size : Nat} {v : Value} {n : Nat} {xs : List Value} (h : SlAt w' (fun k => B ≤ k ∨ k = w.heap.size) e size v n xs) (hB : B ≤ w.heap.size) : SlAt w' (fun k => B ≤ k) e size v n xs :=
  h.mono (fun k _ e => by rcases e with e | e <;> omega)

set_option maxHeartbeats 400000 in
theorem pending_any (w : World) (col : Nat → Nat) (c b : Nat) (s : DS) (h : DiskAt w 86 col c b s) (hs : 0 < s.size) (hp : s.pending.length ≤ 1073741824) :
    Calls Try.prog 17 #[.pointer (some ⟨b, 0, none⟩)] w fun e w' => IntsOf w s.sectors e w' ∧ Below w.heap.size w w' := by
  obtain ⟨pa, pcap, qa, qn, qcap, qs, h⟩ := h
  obtain ⟨i0, hi, hz0, hz1, hz2⟩ := info_parts info3
  have c0 := h.size
  have c3 := h.pending
  have hqn := Lib.hid h.len
  have hq1 : qn ≤ 1073741824 := by have := hqn.out; omega
  go_enter Try.func17, Try.ntmps17
  go_wp2_with (go_at_call 41; refine (made_yes h hs).mono ?_; rintro e w' ⟨rfl, rfl⟩)
  go_loopw [3, 14] (fun v i wr => ∃ k : Nat, k ≤ qn ∧ i = .int .i64 k ∧ SlAt wr (fun j => w.heap.size ≤ j) 3 1 v k ((s.sectors.take k).map (Value.int .i64)) ∧ Below w.heap.size w wr) (fun _ i _ => qn - (intOf i).toNat)
  case atStart => exact ⟨0, by omega, rfl, by simpa using SlAt.nil _ _ _ _ _, Below.refl _ _⟩
  case round =>
    obtain ⟨k, hk, rfl, hsl, hbw⟩ := hrel
    by_cases hlt : k < qn
    · obtain ⟨g, off, rfl, _, hg, hcs⟩ := (h.list.rd.below hbw).get (by omega)
      obtain ⟨a', n', cap', e1, e2, _⟩ := PendC.get h.pend k (by have := hqn.out; omega)
      have x1 := hcs _ _ e1
      have x2 := hcs _ _ e2
      have x2' : wr.cell? ⟨g, off + k * 2 + 1, none⟩ = some (.slice a' n' cap') := x2
      have hnx : Hid (s.sectors.take (k + 1) = s.sectors.take k ++ [(s.pending[k]'(by have := hqn.out; omega)).1]) := by
        have hl : k < s.sectors.length := by have := hqn.out; simp [DS.sectors]; omega
        show _ = _
        rw [List.take_succ_eq_append_getElem hl]
        simp [DS.sectors]
      generalize (s.pending[k]'(by have := hqn.out; omega)).1 = N at *
      clear hcs e1 e2 x2
      have hsz := hbw.size
      obtain ⟨av, capv, rfl⟩ := hsl.shape
      go_wp2_with (at_builtin; go_must (refine wpList_append_sl rfl _ _ 45 rfl 3 i0 (.int .i64 0) 1 8 Try.underlying45 hi hz0 hz1 hz2 rfl (fun j => w.heap.size ≤ j) _ k ((s.sectors.take k).map (Value.int .i64)) rfl ?_ (fun j => j = wr.heap.size + 1) _ 1 [.int .i64 N] rfl ?_ ?_ ?_ ?_ ?_); exact hsl.below (((Below.refl _ _).alloc (Nat.le_refl _) _).alloc (by simp) _); exact rd_newG (by simp) rfl (by unfold maxLen; omega); simp [Value.oneCell']; (unfold maxLen; omega); omega; intro v' w' hs' hc')
      go_roundw
      case rel =>
        refine ⟨k + 1, by omega, by go_num, ?_, hbw.trans (((Chg.refl (fun j => w.heap.size ≤ j) wr).alloc _).alloc _ |>.trans hc' |>.below hsz (fun i hi e => by omega))⟩
        rw [hnx.out, List.map_append]
        exact slAt_upto hs' (by simp; omega)
      case measure => simp [intOf]; omega
    · obtain rfl : k = qn := by omega
      go_wp2
      go_ret
      have e : s.sectors.length = k := by rw [hqn.out]; simp [DS.sectors]
      rw [List.take_of_length_le (by omega)] at hsl
      obtain ⟨av, capv, rfl⟩ := hsl.shape
      exact ⟨⟨av, capv, by rw [e]; rfl, by rw [e]; exact hsl⟩, hbw⟩

/-! ### Flush -/
theorem getElem?_splice {α : Type} (L : List α) (p : Nat) (cs : List α) (h : p + cs.length ≤ L.length) (j : Nat) :
    (splice L p cs)[j]? = if j < p then L[j]? else if j < p + cs.length then cs[j - p]? else L[j]? := by
  unfold splice
  rw [List.getElem?_append, List.length_take, Nat.min_eq_left (by omega)]
  split
  · rename_i h1; rw [List.getElem?_take, if_pos h1]
  · rename_i h1
    rw [List.getElem?_append]
    split
    · rename_i h2; rw [if_pos (by omega)]
    · rename_i h2
      rw [if_neg (by omega), List.getElem?_drop]
      congr 1; omega
theorem splice_window {α : Type} (cur xs cs : List α) (off len p : Nat) (hx : (cur.drop off).take len = xs) (hp : p + cs.length ≤ len) (hl : off + len ≤ cur.length) :
    ((splice cur (off + p) cs).drop off).take len = splice xs p cs := by
  have hxl : xs.length = len := by rw [← hx]; simp; omega
  apply List.ext_getElem?
  intro j
  rw [List.getElem?_take, List.getElem?_drop, getElem?_splice xs p cs (by omega), getElem?_splice cur _ cs (by omega), ← hx, List.getElem?_take, List.getElem?_drop]
  by_cases hj : j < len
  · rw [if_pos hj]
    by_cases h1 : j < p
    · rw [if_pos h1, if_pos (by omega), if_pos hj]
    · rw [if_neg h1, if_neg (by omega)]
      by_cases h2 : j < p + cs.length
      · rw [if_pos h2, if_pos (by omega)]; congr 1; omega
      · rw [if_neg h2, if_neg (by omega), if_pos hj]
  · rw [if_neg hj, if_neg (by omega), if_neg (by omega), if_neg hj]
theorem bcells_splice (l : List Int) (p : Nat) (cs : List Int) : bcells (splice l p cs) = splice (bcells l) p (bcells cs) := by simp [splice, bcells, List.map_take, List.map_drop]
theorem splice_len {α : Type} (l : List α) (p : Nat) (cs : List α) (h : p + cs.length ≤ l.length) : (splice l p cs).length = l.length := length_splice l p cs h

structure DS.Ok (s : DS) : Prop where
  size0 : 512 ≤ s.size
  size1 : s.size ≤ 4096
  count0 : 1 ≤ s.count
  count1 : s.count ≤ 4096
  plen : (s.platter.length : Int) = s.size * s.count
  pend : ∀ p ∈ s.pending, 0 ≤ p.1 ∧ p.1 < s.count ∧ (p.2.length : Int) = s.size
  left : 0 ≤ s.left ∧ s.left ≤ 9223372036854775807
def putP (size : Int) (pl : List Int) (p : Int × List Int) : List Int := splice pl (p.1 * size).toNat p.2
theorem DS.Ok.room {s : DS} (h : s.Ok) {n : Int} {l : List Int} (h0 : 0 ≤ n) (h1 : n < s.count) (h2 : (l.length : Int) = s.size) : (n * s.size).toNat + l.length ≤ s.platter.length := by
  have h3 : 0 ≤ n * s.size := Int.mul_nonneg h0 (by have := h.size0; omega)
  have := Int.mul_le_mul_of_nonneg_right (show n + 1 ≤ s.count by omega) (show 0 ≤ s.size by have := h.size0; omega)
  rw [Int.add_mul, Int.one_mul, Int.mul_comm s.count] at this
  have h5 := h.plen
  omega
theorem putP_len {s : DS} (h : s.Ok) {p : Int × List Int} (hp : p ∈ s.pending) (pl : List Int) (hl : pl.length = s.platter.length) : (putP s.size pl p).length = s.platter.length := by
  obtain ⟨h0, h1, h2⟩ := h.pend p hp
  rw [putP, splice_len _ _ _ (by rw [hl]; exact h.room h0 h1 h2), hl]
theorem foldl_len {s : DS} (h : s.Ok) : ∀ (l : List (Int × List Int)), (∀ p ∈ l, p ∈ s.pending) → ∀ pl : List Int, pl.length = s.platter.length → (l.foldl (putP s.size) pl).length = s.platter.length
  | [], _, pl, hl => hl
  | p :: l, hm, pl, hl => foldl_len h l (fun q hq => hm q (List.mem_cons_of_mem _ hq)) _ (putP_len h (hm p List.mem_cons_self) pl hl)

theorem DiskIn.copied {w w2 : World} {T : TypeId} {col : Nat → Nat} {c b : Nat} {s : DS} {g off : Nat} {pcap : Nat} {qa : Option Addr} {qn qcap : Nat} {qs : List Value} (h : DiskIn w T col c b s (some ⟨g, off, none⟩) pcap qa qn qcap qs) (hc : 1 < c)
    {cur : Array Value} (hg : w.heap[g]? = some (.cells cur 5 (0, 0))) (hcg : col g = c + 1) (h1 : off + pcap ≤ cur.size) (h2 : s.platter.length ≤ pcap) (hcm : pcap ≤ maxLen) (h3 : (cur.toList.drop off).take s.platter.length = bcells s.platter)
    (p : Nat) (cs : List Int) (hp : p + cs.length ≤ s.platter.length) (hk : Chg (· = g) w w2) (hb : w2.heap[g]? = some (.cells (splice cur.toList (off + p) (bcells cs)).toArray 5 (0, 0))) :
    DiskIn w2 T col c b { s with platter := splice s.platter p cs } (some ⟨g, off, none⟩) pcap qa qn qcap qs := by
  have hcol := h.color
  have hl : (splice s.platter p cs).length = s.platter.length := splice_len _ _ _ hp
  refine ⟨?_, hcol, ?_, ?_, h.len, ?_⟩
  · have := hk.keeps h.block (fun e => by subst e; omega)
    rw [this]
    simp only [dcells, hl]
  · simp only [hl]
    refine ⟨by simp [hl], Or.inr ⟨g, off, pcap, _, rfl, hcg, hb, h2, hcm, ?_, ?_⟩⟩
    · simp only [Nat.mul_one, List.size_toArray]
      rw [splice_len _ _ _ (by simp; omega)]
      simpa using h1
    · simp only [Nat.mul_one]
      rw [splice_window cur.toList (bcells s.platter) (bcells cs) off s.platter.length p h3 (by simpa using hp) (by simp; omega), bcells_splice]
  · exact h.list.keep (fun k hk' e => hk.block k hk' (fun e' => by subst e'; omega)) (fun _ _ e => e)
  · exact PendC.keep (fun k hk' e => hk.block k hk' (fun e' => by subst e'; omega)) (Ext.refl _ _) hk.size h.pend

theorem DiskIn.cleared {w : World} {T : TypeId} {col : Nat → Nat} {c b : Nat} {s : DS} {pa : Option Addr} {pcap : Nat} {qa : Option Addr} {qn qcap : Nat} {qs : List Value} (h : DiskIn w T col c b s pa pcap qa qn qcap qs) (hc : 1 < c) :
    DiskIn (w.setCell ⟨b, 3, none⟩ (.slice none 0 0)) T col c b { s with pending := [] } pa pcap none 0 0 [] := by
  have hcol := h.color
  refine ⟨by rw [block_set h.block]; rfl, hcol, ?_, SlAt.nil _ _ _ _ _, rfl, rfl⟩
  exact h.plat.keep (fun k hk e => Below.heap_setCell _ _ _ _ (fun e' => by subst e'; omega)) (fun _ _ e => e)

def DS.flush (s : DS) : DS := if s.alive then { s.tick with platter := s.pending.foldl (putP s.size) s.platter, pending := [], flushes := wrap64 (s.flushes + 1) } else s
theorem nm50 : (Try.f50.name == "runtime.NumGoroutine") = false := by kernel_rfl
theorem bd50 : Try.f50.body.isNone = false := by kernel_rfl

/-- one pending write goes to the platter: copy(d.at(n), bytes) -/
theorem foldl_take {l : List (Int × List Int)} (f : List Int → (Int × List Int) → List Int) (x : List Int) (k : Nat) (h : k < l.length) : (l.take (k + 1)).foldl f x = f ((l.take k).foldl f x) l[k] := by
  rw [List.take_succ_eq_append_getElem h, List.foldl_append]; rfl

theorem DiskIn.placed {w : World} {T : TypeId} {col : Nat → Nat} {c b : Nat} {s : DS} {pa : Option Addr} {pcap : Nat} {qa : Option Addr} {qn qcap : Nat} {qs : List Value} (h : DiskIn w T col c b s pa pcap qa qn qcap qs) (hp : 0 < s.platter.length) :
    ∃ g off cur, pa = some ⟨g, off, none⟩ ∧ col g = c + 1 ∧ w.heap[g]? = some (.cells cur 5 (0, 0)) ∧ s.platter.length ≤ pcap ∧ pcap ≤ maxLen ∧ off + pcap ≤ cur.size ∧ (cur.toList.drop off).take s.platter.length = bcells s.platter := by
  rcases h.plat.2 with ⟨a, e1, e2⟩ | ⟨g, off, cap, cur, e1, ho, hh, l1, l2, l3, l4⟩
  · omega
  · injection e1 with e1 _ e3
    subst e1 e3
    exact ⟨g, off, cur, rfl, ho, hh, l1, l2, by simpa using l3, by simpa using l4⟩
theorem at_any2 {w : World} {col : Nat → Nat} {c b : Nat} {s : DS} {g off : Nat} {pcap : Nat} {qa : Option Addr} {qn qcap : Nat} {qs : List Value} (h : DiskIn w 86 col c b s (some ⟨g, off, none⟩) pcap qa qn qcap qs)
    {n : Int} (h0 : 512 ≤ s.size) (h1 : s.size ≤ 4096) (h2 : s.count ≤ 4096) (hn0 : 0 ≤ n) (hn1 : n < s.count) (hlen : (s.platter.length : Int) = s.size * s.count) :
    Calls Try.prog 50 #[.pointer (some ⟨b, 0, none⟩), .int .i64 n] w fun e w' =>
      e = .returned (.slice (some ⟨g, off + (n * s.size).toNat, none⟩) s.size.toNat (pcap - (n * s.size).toNat)) ∧ Below w.heap.size w w' := by
  obtain ⟨g', off', e, hc⟩ := at_any w col c b s _ pcap qa qn qcap qs h n (by omega) h1 h2 hn0 hn1 hlen (by omega)
  injection e with e
  injection e with e1 e2
  subst e1 e2
  exact hc

set_option maxHeartbeats 1000000 in
theorem flush_yes (w : World) (col : Nat → Nat) (c b : Nat) (s : DS) (pa : Option Addr) (pcap : Nat) (qa : Option Addr) (qn qcap : Nat) (qs : List Value) (h : DiskIn w 86 col c b s pa pcap qa qn qcap qs) (hc : 1 < c) (ok : s.Ok) (ha : s.alive = true) (hp : s.pending.length ≤ 1073741824) :
    Calls Try.prog 48 #[.pointer (some ⟨b, 0, none⟩)] w fun e w' => e = .returned (.int .i64 s.pending.length) ∧ DiskAt w' 86 col c b s.flush ∧ Chg (inC col c) w w' := by
  obtain ⟨i0, hi, hz0, hz1, hz2⟩ := info_parts info5
  have hin : inC col c b := by unfold inC; have := h.color; omega
  have hs : 0 < s.size := by have := ok.size0; omega
  have c0 := h.size
  have c3 := h.pending
  have hqn := Lib.hid h.len
  have hq1 : qn ≤ 1073741824 := by have := hqn.out; omega
  have hg := Lib.hid (goes_any h hc ok.left)
  rw [ha] at hg
  have e : s.flush = { s.tick with platter := s.pending.foldl (putP s.size) s.platter, pending := [], flushes := wrap64 (s.flushes + 1) } := by simp [DS.flush, ha]
  rw [e]
  clear ha e
  have hlen0 : (qn : Int) = (s.pending.length : Int) := by rw [hqn.out]
  rw [← hlen0]
  have Hl := Lib.hid hlen0; clear hlen0
  go_enter Try.func48, Try.ntmps48
  go_wp2_with (first | (go_at_call 41; refine (made_yes h hs).mono ?_; rintro e w' ⟨rfl, rfl⟩) | (go_at_call 73; refine hg.out.mono ?_; rintro e w1 ⟨rfl, h1, k1⟩; (have d3 := h1.pending)))
  go_loopw [23] (fun i wr => ∃ k : Nat, k ≤ qn ∧ i = .int .i64 k ∧ DiskIn wr 86 col c b { s.tick with platter := (s.pending.take k).foldl (putP s.size) s.platter } pa pcap qa qn qcap qs ∧ Chg (inC col c) w wr) (fun i _ => qn - (intOf i).toNat)
  case atStart => exact ⟨0, by omega, rfl, h1, k1⟩
  case round =>
    obtain ⟨k, hk, rfl, hr, kr⟩ := hrel
    by_cases hlt : k < qn
    · have hkp : k < s.pending.length := by have := hqn.out; omega
      obtain ⟨n0, n1, n2⟩ := ok.pend _ (List.getElem_mem hkp)
      have hstep := Lib.hid (foldl_take (putP s.size) s.platter k hkp)
      have hfl := foldl_len ok (s.pending.take k) (fun p hp => List.mem_of_mem_take hp) s.platter rfl
      generalize (s.pending.take k).foldl (putP s.size) s.platter = pl at *
      have hroom := ok.room n0 n1 n2
      have hsz0 := ok.size0
      have hplen := ok.plen
      have hpl0 : 0 < pl.length := by omega
      have hpe : (pl.length : Int) = s.size * s.count := by omega
      have hpend := hr.pend
      obtain ⟨g, off, cur, rfl, hcg, hhg, hl1, hl2, hl3, hl4⟩ := hr.placed hpl0
      obtain ⟨gq, offq, rfl, _, hgq, hcs⟩ := hr.list.rd.get (by omega)
      obtain ⟨a', n', cap', e1, e2, e3⟩ := PendC.get hpend k hkp
      have x1 := hcs _ _ e1
      have x2 : wr.cell? ⟨gq, offq + k * 2 + 1, none⟩ = some (.slice a' n' cap') := hcs _ _ e2
      have hn' : n' = (s.pending[k]).2.length := by obtain ⟨_, _, _, e, _⟩ := e3; injection e
      simp only [DS.tick] at x1 x2 e3 e1 e2
      generalize hq : s.pending[k] = q at *
      have Hq := Lib.hid hq
      clear hq hcs e1 e2 hpend
      have hbr := hr.lt
      subst hn'
      have hrA := hr.below ((Below.refl _ wr).alloc (Nat.le_refl _) (.cells #[.int .i64 q.1, .slice a' q.2.length cap'] 88) |>.drew)
      have hbA := e3.below ((Below.refl _ wr).alloc (Nat.le_refl _) (.cells #[.int .i64 q.1, .slice a' q.2.length cap'] 88) |>.drew)
      have hlen2 := Lib.hid (show q.2.length = s.size.toNat by omega)
      have Hpe := Lib.hid hpe
      have Hfl := Lib.hid hfl
      have hmin := Lib.hid (show Nat.min q.2.length s.size.toNat = q.2.length by rw [hlen2.out]; exact Nat.min_self _)
      clear n2 hpe hplen hfl
      go_wp2_with fail
      go_region_law (first | (refine step_call_fn rfl 50 Try.f50 _ _ rfl Try.func50 nm50 bd50 #[.pointer (some ⟨b, 0, none⟩), .int .i64 q.1] ?_ ?_; simp [Act.eval, Act.put]; go_must (refine (at_any2 hrA hsz0 ok.size1 ok.count1 n0 n1 Hpe.out).mono ?_); rintro e w6 ⟨rfl, hb6⟩; refine ⟨_, rfl, ?_⟩; (have z1 := (hb6.cell (p := ⟨wr.heap.size, 1, none⟩) (by simp)).trans (show _ = some (.slice a' q.2.length cap') by simp))) | (go_must (refine step_copy_sl rfl (.tmp 30) (.tmp 32) 34 34 rfl 5 i0 Try.underlying34 hi hz1 (fun k => col k = 1) _ q.2.length (bcells q.2) rfl ?_ (bcells_one _) _ g (off + (q.1 * s.size).toNat) s.size.toNat _ cur 5 rfl ?_ ?_); exact hbA.below hb6; exact fun _ => ⟨rfl, below_keeps hb6 (block_old _ hhg) (by have := lt_of_block hhg; simp; omega), (by rw [hmin.out]; have := Hfl.out; omega)⟩; rintro w7 c7 _ k7))
      all_goals go_wp2
      all_goals go_roundw
      all_goals first
        | (case rel =>
            refine ⟨k + 1, by omega, by go_num, ?_, ?_⟩
            · have h6 := hrA.below hb6
              have hg6 : w6.heap[g]? = some (.cells cur 5 (0, 0)) := below_keeps hb6 (block_old _ hhg) (by have := lt_of_block hhg; simp; omega)
              rw [hmin.out, List.take_of_length_le (by simp)] at c7
              have := h6.copied hc hg6 hcg hl3 hl1 hl2 hl4 (q.1 * s.size).toNat q.2 (by have := Hfl.out; simp only; omega) k7 (c7 (by have := hlen2.out; omega))
              rw [hstep.out]
              exact this
            · refine kr.trans (((Chg.of_below (below_grow (((Below.refl _ wr).alloc (Nat.le_refl _) _).drew) (Nat.le_refl _) hb6)).trans (k7.mono (fun i _ e => ?_))))
              subst e; unfold inC; omega)
        | (case measure => simp [intOf]; omega)
    · obtain rfl : k = qn := by omega
      have f3 := hr.free 3
      have g3 := hr.pending
      have f6 := hr.free 6
      have g6 := hr.flushes
      have hb := Lib.hid (List.take_of_length_le (l := s.pending) (i := k) (by have := hqn.out; omega))
      go_wp2
      go_ret
      rw [hb.out] at hr
      have hd := (hr.cleared hc).store hc { s.tick with platter := s.pending.foldl (putP s.size) s.platter, pending := [], flushes := wrap64 (s.flushes + 1) } 6 _ rfl rfl rfl
      exact ⟨rfl, hd.at, (kr.trans (Chg.of_set _ _ _ _ hin)).trans (Chg.of_set _ _ _ _ hin)⟩
end Go.Proofs.Ytjjgihaikcnjgaa
