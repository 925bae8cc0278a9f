/-
  The document's disk: Read; and what both Reads refuse.
-/
import Derived.Test.YtjjgihaikcnjgaaDRef3
import Derived.Test.YtjjgihaikcnjgaaDWholePlain
namespace Go.Proofs.Ytjjgihaikcnjgaa
open Go.RowKit
set_option linter.unusedSimpArgs false
set_option linter.unusedVariables false
set_option maxRecDepth 100000

theorem read_bad (w : World) (col : Nat → Nat) (c b : Nat) (s : DS) (n : Int) (h : DiskAt w 86 col c b s) (ok : s.Ok) (hn : ¬ (0 ≤ n ∧ n < s.count)) :
    Calls Try.prog 23 #[.pointer (some ⟨b, 0, none⟩), .int .i64 n] w fun e w' => e = .returned (.tuple #[.slice none 0 0, .int .i64 30]) ∧ Below w.heap.size w w' := by
  obtain ⟨pa, pcap, qa, qn, qcap, qs, h⟩ := h
  have hs : 0 < s.size := by have := ok.size0; omega
  have hB := h.below ((((Below.refl _ w).alloc (Nat.le_refl _) (.cells #[.int .i64 n] 3)).alloc (by simp) (.cells #[.slice none 0 0] 34)).alloc (by simp; omega) (.cells #[.int .i64 0] 35))
  have hhas : Hid ((decide (0 ≤ n) && decide (n < s.count)) = false) := by show _ = _; simp; omega
  clear hn
  go_enter Try.func23, Try.ntmps23
  go_wp2_with (first | (go_at_call 41; refine (made_yes hB hs).mono ?_; rintro e w' ⟨rfl, rfl⟩) | (go_at_call 51; refine (has_any hB n).mono ?_; rintro e w' ⟨rfl, rfl⟩; rw [hhas.out]))
  refine bodyPost_ret (v := .tuple #[.slice none 0 0, .int .i64 30]) (by simp [results, Try.f23, go_sem]) rfl ⟨rfl, ?_⟩
  exact (((Below.refl _ _).alloc (Nat.le_refl _) _).alloc (by simp) _).alloc (by simp; omega) _

theorem refread_bad (w : World) (col : Nat → Nat) (c b : Nat) (s : DS) (n : Int) (h : DiskAt w 108 col c b s) (hn : ¬ (0 ≤ n ∧ n < s.count)) :
    Calls Try.prog 78 #[.pointer (some ⟨b, 0, none⟩), .int .i64 n] w fun e w' => e = .returned (.tuple #[.slice none 0 0, .int .i64 30]) ∧ w = w' := by
  obtain ⟨pa, pcap, qa, qn, qcap, qs, h⟩ := h
  have c1 := h.count
  by_cases h0 : n < 0
  · clear hn
    go_enter Try.func78, Try.ntmps78
    go_wp2
    go_ret2
    exact ⟨rfl, rfl⟩
  · have h1 : s.count ≤ n := by omega
    clear hn
    go_enter Try.func78, Try.ntmps78
    go_wp2
    go_ret2
    exact ⟨rfl, rfl⟩

/-- the last of the writes, going up -/
theorem pick_take (n : Int) (l : List (Int × List Int)) (x : List Int) (k : Nat) (h : k < l.length) : (l.take (k + 1)).foldl (pickP n) x = if l[k].1 = n then l[k].2 else (l.take k).foldl (pickP n) x := by
  rw [List.take_succ_eq_append_getElem h, List.foldl_append]; rfl
theorem pick_len {s : DS} (ok : s.Ok) {n : Int} (n0 : 0 ≤ n) (n1 : n < s.count) : ∀ (l : List (Int × List Int)), (∀ p ∈ l, p ∈ s.pending) → ∀ x : List Int, x.length = s.size.toNat → (l.foldl (pickP n) x).length = s.size.toNat
  | [], _, x, hx => hx
  | p :: l, hm, x, hx => by
    rw [List.foldl_cons]
    refine pick_len ok n0 n1 l (fun q hq => hm q (List.mem_cons_of_mem _ hq)) _ ?_
    unfold pickP
    split
    · have := (ok.pend p (hm p List.mem_cons_self)).2.2; omega
    · exact hx

def RefReadTells (w : World) (col : Nat → Nat) (c b : Nat) (s : DS) (l : List Int) (e : Ending) (w' : World) : Prop :=
  ∃ a cap, e = .returned (.tuple #[.slice a l.length cap, .int .i64 0]) ∧ SlAt w' (fun k => w.heap.size ≤ k) 5 1 (.slice a l.length cap) l.length (bcells l) ∧ DiskAt w' 108 col c b s.read ∧ Chg (inC col c) w w'
set_option maxHeartbeats 2000000 in
theorem refread_ok (w : World) (col : Nat → Nat) (c b : Nat) (s : DS) (n : Int) (h : DiskAt w 108 col c b s) (hc : 1 < c) (ok : s.norm.Ok) (hp : s.pending.length ≤ 1073741824) (hn0 : 0 ≤ n) (hn1 : n < s.count) :
    Calls Try.prog 78 #[.pointer (some ⟨b, 0, none⟩), .int .i64 n] w fun e w' => RefReadTells w col c b s (s.sector n) e w' := by
  obtain ⟨pa, pcap, qa, qn, qcap, qs, h⟩ := h
  obtain ⟨i0, hi, hz0, hz1, hz2⟩ := info_parts info5
  have hin : inC col c b := by unfold inC; have := h.color; omega
  have hs0 : 512 ≤ s.size := ok.size0
  have hs1 : s.size ≤ 4096 := ok.size1
  have hct : s.count ≤ 4096 := ok.count1
  have hplen : (s.platter.length : Int) = s.size * s.count := ok.plen
  have hbl := h.lt
  have c1 := h.count
  have c4 := h.reads
  have f4 := h.free 4
  have h0' : ¬ n < 0 := by omega
  have h1' : ¬ s.count ≤ n := by omega
  obtain ⟨m0, m1⟩ := mul_bounds (a := n) (b := s.size) (by omega) (by omega) (by omega) hs1
  have hlt : n * s.size + s.size ≤ s.size * s.count := by
    have := Int.mul_le_mul_of_nonneg_right (show n + 1 ≤ s.count by omega) (show 0 ≤ s.size by omega)
    rw [Int.add_mul, Int.one_mul, Int.mul_comm s.count] at this
    exact this
  have hmul : (n + 1) * s.size = n * s.size + s.size := by rw [Int.add_mul, Int.one_mul]
  go_enter Try.func78, Try.ntmps78
  go_wp2_with fail
  have h4 := (h.store hc s.read 4 (.int .i64 (wrap64 (s.reads + 1))) rfl rfl rfl)
  have hks : Chg (inC col c) w (w.setCell ⟨b, 4, none⟩ (.int .i64 (wrap64 (s.reads + 1)))) := Chg.of_set _ _ _ _ hin
  have hsz : (w.setCell ⟨b, 4, none⟩ (.int .i64 (wrap64 (s.reads + 1)))).heap.size = w.heap.size := by simp
  generalize w.setCell ⟨b, 4, none⟩ (.int .i64 (wrap64 (s.reads + 1))) = Wa at *
  have hrow := ok.room (n := n) (l := zeros s.size.toNat) hn0 hn1 (by simp [zeros]; show _ = s.size; omega)
  have hpos : 0 < s.platter.length := by
    have := Int.mul_nonneg hn0 (show 0 ≤ s.size by omega)
    omega
  obtain ⟨g, off, cur, rfl, hcg, hhg, hl1, hl2, hl3, hl4⟩ := h4.placed hpos
  have hcap : s.platter.length ≤ pcap := hl1
  have q1 : IntKind.i64.wrap (n * s.size) = n * s.size := IntWalk.i64_in _ (by omega)
  have q2 : IntKind.i64.wrap (n + 1) = n + 1 := IntWalk.i64_in _ (by omega)
  have q3 : IntKind.i64.wrap ((n + 1) * s.size) = n * s.size + s.size := by rw [hmul]; exact IntWalk.i64_in _ (by omega)
  have b1 : 0 ≤ n * s.size + s.size := by omega
  have b2 : n * s.size ≤ n * s.size + s.size := by omega
  have b3 : n * s.size + s.size ≤ (pcap : Int) := by omega
  have b4 : n * s.size + s.size ≤ (s.platter.length : Int) := by omega
  have hne : ¬ pcap = (n * s.size).toNat := by omega
  have hpart := rd_part h4.plat.rd hpos (n * s.size).toNat ((n * s.size + s.size).toNat - (n * s.size).toNat) (by show _ ≤ s.platter.length; omega)
  have ebase : (s.platter.drop (n * s.size).toNat).take ((n * s.size + s.size).toNat - (n * s.size).toNat) = s.base n := by
    simp only [DS.base]
    congr 1; omega
  have hpart' : RdAt Wa (fun k => col k = c + 1) 1 (.slice (some ⟨g, off + (n * s.size).toNat, none⟩) ((n * s.size + s.size).toNat - (n * s.size).toNat) (pcap - (n * s.size).toNat)) ((n * s.size + s.size).toNat - (n * s.size).toNat) (bcells (s.base n)) := by
    have e : ((s.platter.drop (n * s.size).toNat).take ((n * s.size + s.size).toNat - (n * s.size).toNat)).length = (n * s.size + s.size).toNat - (n * s.size).toNat := by simp; omega
    rw [ebase] at e
    have hp := hpart
    rw [show (s.read.platter.drop (n * s.size).toNat).take ((n * s.size + s.size).toNat - (n * s.size).toNat) = s.base n from ebase, e] at hp
    exact hp
  have hlb : (s.base n).length = (n * s.size + s.size).toNat - (n * s.size).toNat := by rw [← ebase]; simp; omega
  have hll : (s.base n).length ≤ 4096 := by omega
  have Hlb := Lib.hid hlb
  clear hmul ebase hlb hpart hrow
  have d2 : Wa.drew.cell? ⟨b, 2, none⟩ = some (.slice (some ⟨g, off, none⟩) s.platter.length pcap) := h4.platter
  have d0 : Wa.drew.cell? ⟨b, 0, none⟩ = some (.int .i64 s.size) := h4.size
  have hS0 : Wa.drew.cell? ⟨b, 2, none⟩ = some (.slice (some ⟨g, off, none⟩) s.platter.length pcap) ∧ Wa.drew.cell? ⟨b, 0, none⟩ = some (.int .i64 s.size) ∧ Below Wa.heap.size Wa Wa.drew := ⟨d2, d0, (Below.refl _ _).drew⟩
  have hK : ∀ w1 w2 : World, Below w1.heap.size w1 w2 → (w1.cell? ⟨b, 2, none⟩ = some (.slice (some ⟨g, off, none⟩) s.platter.length pcap) ∧ w1.cell? ⟨b, 0, none⟩ = some (.int .i64 s.size) ∧ Below Wa.heap.size Wa w1) →
      (w2.cell? ⟨b, 2, none⟩ = some (.slice (some ⟨g, off, none⟩) s.platter.length pcap) ∧ w2.cell? ⟨b, 0, none⟩ = some (.int .i64 s.size) ∧ Below Wa.heap.size Wa w2) := fun w1 w2 k ⟨e1, e2, e3⟩ =>
    ⟨(k.cell (p := ⟨b, 2, none⟩) (cell_lt e1)).trans e1, (k.cell (p := ⟨b, 0, none⟩) (cell_lt e2)).trans e2, below_grow e3 (Nat.le_refl _) k⟩
  clear d2 d0
  go_region_held3 (fun w' => w'.cell? ⟨b, 2, none⟩ = some (.slice (some ⟨g, off, none⟩) s.platter.length pcap) ∧ w'.cell? ⟨b, 0, none⟩ = some (.int .i64 s.size) ∧ Below Wa.heap.size Wa w') (first | exact hS0 | assumption | exact hK _ _ ((Below.refl _ _).alloc (Nat.le_refl _) _) (by assumption) | exact hK _ _ (by assumption) (by assumption)) (first | (refine step_append_sl rfl (.tmp 25) (.tmp 43) 34 rfl 5 i0 (.int .u8 0) 1 1 Try.underlying34 hi hz0 hz1 hz2 rfl (fun _ => False) _ 0 [] rfl (SlAt.nil _ _ _ _ _) (fun k => col k = c + 1) _ ((n * s.size + s.size).toNat - (n * s.size).toNat) (bcells (s.base n)) rfl ?_ (bcells_one _) ?_ ?_ ?_; (have hS := ‹_ ∧ _ ∧ Below Wa.heap.size Wa _›; exact hpart'.below hS.2.2); (unfold maxLen; omega); omega; intro v6 w6 hs6 hc6; (have hb6 := hc6.below (Nat.le_refl _) (fun i _ e => e))))
  rw [Nat.zero_add, List.nil_append] at hs6
  have hS6 := ‹_ ∧ _ ∧ Below Wa.heap.size Wa w6›
  have hbel := hS6.2.2
  have hsl6 : SlAt w6 (fun j => Wa.heap.size ≤ j) 5 1 v6 ((n * s.size + s.size).toNat - (n * s.size).toNat) (bcells (s.base n)) := hs6.mono (fun k _ e => by
    rcases e with e | e
    · exact e.elim
    · have := hb6.size; simp at e; omega)
  obtain ⟨a6, cap6, rfl⟩ := hsl6.shape
  have hm : (n * s.size + s.size).toNat - (n * s.size).toNat = s.size.toNat := by omega
  rw [hm] at hsl6
  have hqn := Lib.hid h4.len
  have hq1 : qn ≤ 1073741824 := by have := hqn.out; simp only [DS.read] at this; omega
  have Hm := Lib.hid hm
  have Hsz := Lib.hid hsz
  clear hs6 hS6 hS0 hK hpart' hm hsz hlt q1 q2 q3 b1 b2 b3 b4 hne
  rw [Hm.out]
  go_wp2_with fail
  go_loopw [7] (fun i wr => ∃ k : Nat, k ≤ qn ∧ i = .int .i64 k ∧ SlAt wr (fun j => Wa.heap.size ≤ j) 5 1 (.slice a6 s.size.toNat cap6) s.size.toNat (bcells ((s.pending.take k).foldl (pickP n) (s.base n))) ∧ Below Wa.heap.size Wa wr) (fun i _ => qn - (intOf i).toNat)
  case atStart => exact ⟨0, by omega, rfl, by simpa using hsl6, hbel⟩
  case round =>
    obtain ⟨k, hk, rfl, hsl, hbw⟩ := hrel
    have hr := h4.below hbw
    have d3 := hr.pending
    by_cases hlt : k < qn
    · have hkp : k < s.pending.length := by have := hqn.out; simp only [DS.read] at this; omega
      have hstep := Lib.hid (pick_take n s.pending (s.base n) k hkp)
      obtain ⟨p0, p1, p2⟩ := ok.pend _ (List.getElem_mem hkp)
      have p2' : ((s.pending[k]).2.length : Int) = s.size := p2
      obtain ⟨gq, offq, rfl, _, hgq, hcs⟩ := hr.list.rd.get (by omega)
      obtain ⟨a', n', cap', e1, e2, e3⟩ := PendC.get hr.pend k (by simpa [DS.read] using hkp)
      have x1 := hcs _ _ e1
      have x2 : World.cell? _ ⟨gq, offq + k * 2 + 1, none⟩ = some (.slice a' n' cap') := hcs _ _ e2
      simp only [DS.read] at x1 x2 e3
      have hn' : n' = (s.pending[k]).2.length := by obtain ⟨_, _, _, e, _⟩ := e3; injection e
      generalize hq : s.pending[k] = q at *
      clear hq hcs e1 e2
      subst hn'
      have hql : q.2.length = s.size.toNat := by omega
      have j0 : (0 : Int) ≤ (k : Int) := by omega
      have j1 : (k : Int) < (qn : Int) := by omega
      generalize (s.pending.take k).foldl (pickP n) (s.base n) = acc at *
      by_cases he : q.1 = n
      · have he' : (q.1 == n) = true := by simp [he]
        have hst : Hid ((s.pending.take (k + 1)).foldl (pickP n) (s.base n) = q.2) := by show _ = _; rw [hstep.out, if_pos he]
        obtain ⟨hl1, ⟨_, _, hz⟩ | ⟨g6, o6, cp6, cur6, e6, hg6, hh6, u1, u2, u3, u4⟩⟩ := hsl
        · omega
        injection e6 with e6 _ e7
        subst e6 e7
        have hmin := Lib.hid (show Nat.min q.2.length s.size.toNat = q.2.length by rw [hql]; exact Nat.min_self _)
        have Hql := Lib.hid hql
        clear he hstep p2 p2' hql hl1
        rw [Nat.mul_one] at u3 u4
        go_wp2_with (refine wpList_copy_sl rfl (.tmp 64) (.tmp 72) 34 34 rfl 5 i0 Try.underlying34 hi hz1 (fun k => col k = 1) _ q.2.length (bcells q.2) rfl e3 (bcells_one _) _ g6 o6 s.size.toNat _ cur6 5 rfl ?_ ?_; exact fun _ => ⟨rfl, hh6, (by rw [hmin.out, Hql.out]; omega)⟩; rintro w7 c7 _ k7)
        go_roundw
        case rel =>
          rw [hmin.out, List.take_of_length_le (by simp)] at c7
          have c8 := c7 (by have := Hql.out; omega)
          refine ⟨k + 1, by omega, by go_num, ?_, hbw.trans (k7.below hbw.size (fun i hi e => by omega))⟩
          rw [hst.out]
          refine ⟨by simp [Hql.out], Or.inr ⟨g6, o6, cap6, _, rfl, hg6, c8, u1, u2, ?_, ?_⟩⟩
          · rw [Nat.mul_one, List.size_toArray, splice_len _ _ _ (by simp [Hql.out]; omega)]; simpa using u3
          · rw [Nat.mul_one]
            have := splice_window cur6.toList (bcells acc) (bcells q.2) o6 s.size.toNat 0 u4 (by simp [Hql.out]) (by simp; omega)
            rw [Nat.add_zero] at this
            rw [this]
            have hacc : (bcells acc).length = s.size.toNat := by rw [← u4]; simp; omega
            simp only [splice, List.take_zero, List.nil_append, Nat.zero_add]
            rw [List.drop_of_length_le (by simp at hacc ⊢; rw [hacc, Hql.out]; exact Nat.le_refl _), List.append_nil]
        case measure => simp [intOf]; omega
      · have he' : (q.1 == n) = false := by simp [he]
        have hst : Hid ((s.pending.take (k + 1)).foldl (pickP n) (s.base n) = acc) := by show _ = _; rw [hstep.out, if_neg he]
        clear he hstep p2 p2'
        go_wp2_with fail
        go_roundw
        case rel => exact ⟨k + 1, by omega, by go_num, by rw [hst.out]; exact hsl, hbw⟩
        case measure => simp [intOf]; omega
    · obtain rfl : k = qn := by omega
      have htk : Hid (s.pending.take k = s.pending) := by show _ = _; rw [hqn.out]; exact List.take_length
      have hsec : Hid (s.pending.foldl (pickP n) (s.base n) = s.sector n) := rfl
      rw [htk.out, hsec.out] at hsl
      have hsl' : (s.sector n).length = s.size.toNat := by have := hsl.1; simpa using this
      go_wp2_with fail
      go_ret2
      rw [← hsl'] at hsl ⊢
      exact ⟨a6, cap6, rfl, hsl.mono (fun j _ e => by have := Hsz.out; omega), hr.at, hks.trans (Chg.of_below hbw)⟩
end Go.Proofs.Ytjjgihaikcnjgaa
