/-
  Sync, Drop, Frames of package cache.
-/
import Derived.Test.YtjjgihaikcnjgaaCPut
namespace Go.Proofs.Ytjjgihaikcnjgaa
open Go.RowKit Go.Maps
set_option linter.unusedSimpArgs false
set_option linter.unusedVariables false
set_option maxRecDepth 100000

theorem info43 : (Try.prog.info? 43).map (fun i => (i.zero, i.size, i.bytes)) = some (some (.agg #[.int .i64 0, .int .i64 0, .bool false, .int .u64 0]), 4, 32) := by kernel_rfl
def fcell (f : Frm) : List Value := [.int .i64 f.sector, .int .i64 f.pins, .bool f.dirty, .int .u64 f.order]
def fcells (l : List Frm) : List Value := l.flatMap fcell
@[simp] theorem fcells_len (l : List Frm) : (fcells l).length = l.length * 4 := by
  induction l with
  | nil => rfl
  | cons f l ih => simp only [fcells, List.flatMap_cons, List.length_append] at *; simp [fcell, ih]; omega
theorem fcells_snoc (l : List Frm) (f : Frm) : fcells (l ++ [f]) = fcells l ++ fcell f := by simp [fcells]
def keepN (l : List (Nat × Frm)) : List (Nat × Frm) := l.filter (fun x => x.2.stays)
theorem keepN_snoc (l : List (Nat × Frm)) (x : Nat × Frm) : keepN (l ++ [x]) = keepN l ++ (if x.2.stays then [x] else []) := by
  unfold keepN; rw [List.filter_append]; congr 1; by_cases h : x.2.stays = true <;> simp [h]
theorem keepN_map (l : List (Nat × Frm)) : (keepN l).map Prod.snd = (l.map Prod.snd).filter Frm.stays := by unfold keepN; rw [List.filter_map]; rfl
section
variable {w : World} {col : Nat → Nat} {c b db rb mb : Nat} {s : CS} {ns : List (Nat × Frm)}
set_option maxHeartbeats 1000000 in
theorem csync_any (h : CacheIn w col c b s db rb mb ns) (hc : 1 < c) (hnm : Norm w col) (ok : s.Ok) (hp : s.d.pending.length ≤ 1073690000) :
    Calls Try.prog 19 #[ptr b] w fun e w' => e = .returned (.int .i64 0) ∧ Now w col c b db s.sync w' (fun _ => True) := by
  have H := Lib.hid h
  have HOK := Lib.hid ok
  have HNM := Lib.hid hnm
  have HP := Lib.hid hp
  clear h ok hnm hp
  unfold ptr at *
  go_enter Try.func19, Try.ntmps19
  go_wp2_with fail
  refine (upTo_any H.out hc HNM.out HOK.out (by have := HP.out; omega) 18446744073709551615).mono ?_
  rintro e w1 ⟨rfl, col1, h1, k1⟩
  obtain ⟨c0, -, -, -, -, -, -, -, -⟩ := cells_cache h1.block
  obtain ⟨o1, o2, o3, o4⟩ := upTo_Ok HOK.out 18446744073709551615
  have HD := Lib.hid (flush_law w1 col1 c db _ h1.disk hc o1.d k1.norm (by have := HP.out; omega))
  have H1 := Lib.hid h1
  have K1 := Lib.hid k1
  clear h1 k1 o1 o2 o3 o4
  unfold ptr at *
  go_wp2_with fail
  refine HD.out.mono ?_
  rintro e w2 ⟨rfl, col2, hd2, st2⟩
  have H2 := Lib.hid (H1.out.disked hc st2 hd2)
  have ST2 := Lib.hid st2
  clear hd2 st2
  go_wp2_with fail
  go_ret
  exact ⟨rfl, col2, ⟨_, _, _, H2.out⟩, K1.out.trans ST2.out.k, trivial⟩
set_option maxHeartbeats 2000000 in
theorem frames_any (h : CacheIn w col c b s db rb mb ns) (ok : s.Ok) :
    Calls Try.prog 10 #[ptr b] w fun e w' => (∃ a cap, e = .returned (.slice a s.frames.length cap) ∧ SlAt w' (fun k => w.heap.size ≤ k) 43 4 (.slice a s.frames.length cap) s.frames.length (fcells s.frames)) ∧ Below w.heap.size w w' := by
  obtain ⟨i0, hi, hz0, hz1, hz2⟩ := info_parts info43
  have hlen : ns.length ≤ 4096 := by have := ok.len; have := ok.room1; have := congrArg List.length h.fr; simp at this; omega
  have hnd := h.ring.nodup
  have hb1 := h.block
  obtain ⟨-, -, c2, -, -, -, -, -, -⟩ := cells_cache h.block
  obtain ⟨v0, hv0⟩ := ring_head h.ring
  obtain ⟨-, r1, -, -, -, -, -, -⟩ := cells_node hv0
  unfold ptr at c2 r1
  have Hlt := Lib.hid h.ring.lt
  have HL := Lib.hid hlen
  have HFR := Lib.hid h.fr
  go_enter Try.func10, Try.ntmps10
  go_wp2_with fail
  refine (cmade_any hb1).mono ?_
  rintro e w1 ⟨rfl, rfl⟩
  unfold ptr
  go_wp2_with fail
  go_loopw [3, 4] (fun v5 q wr => ∃ l1 l2 a cap, ns = l1 ++ l2 ∧ q = .pointer (some ⟨hd l2 rb, 0, none⟩) ∧ v5 = .slice a l1.length cap ∧ SlAt wr (fun k => w.heap.size ≤ k) 43 4 v5 l1.length (fcells (l1.map Prod.snd)) ∧ Below w.heap.size w wr) (fun _ q _ => toGo ns (qb q))
  case atStart => exact ⟨[], ns, none, 0, rfl, rfl, rfl, SlAt.nil _ _ _ _ _, Below.refl _ _⟩
  case round =>
    obtain ⟨l1, l2, a, cap, rfl, rfl, rfl, hsl, hbw⟩ := hrel
    have hwr := h.below hbw
    clear c2 r1 hv0
    obtain ⟨-, -, c2, -, -, -, -, -, -⟩ := cells_cache hwr.block
    obtain ⟨v1, hv1⟩ := ring_head hwr.ring
    obtain ⟨-, r1, -, -, -, -, -, -⟩ := cells_node hv1
    unfold ptr at c2 r1
    have hsz := hbw.size
    cases l2 with
    | cons x l2 =>
      have hne := hd_ne hwr.ring
      obtain ⟨p, v, hv, _⟩ := ring_cells hwr.ring
      obtain ⟨-, x1, x2, x3, x4, x5, -, -⟩ := cells_node hv
      unfold ptr at x1
      have hq := ptr_ne hne hv hv1
      have hxl : x.1 < w.heap.size := Hlt.out _ (by simp [blks])
      have hm := Lib.hid (toGo_at hnd)
      have hm2 : Hid (toGo (l1 ++ x :: l2) (hd l2 rb) = l2.length) := by
        have h := toGo_at (l1 := l1 ++ [x]) (l2 := l2) (rb := rb) (by simpa using hnd)
        show _ = _
        rw [List.append_assoc] at h; exact h
      have hlf : Hid (l1.length + 1 ≤ 4097) := by
        have h2 := HL.out
        show _ ≤ _
        simp at h2; omega
      have hfs := Lib.hid (fcells_snoc (l1.map Prod.snd) x.2)
      clear h hv hv1 hwr hnd hlen ok hb1
      simp only [hd_cons] at *
      go_wp2_with (at_builtin; go_must (refine wpList_append_sl rfl _ _ 32 rfl 43 i0 (.agg #[.int .i64 0, .int .i64 0, .bool false, .int .u64 0]) 4 32 Try.underlying32 hi hz0 hz1 hz2 rfl (fun k => w.heap.size ≤ k) _ l1.length (fcells (l1.map Prod.snd)) rfl ?_ (fun j => j = wr.heap.size) _ 1 (fcell x.2) rfl ?_ ?_ ?_ ?_ ?_); exact hsl.below ((Below.refl _ _).alloc (Nat.le_refl _) _); exact rd_newG rfl rfl (by unfold maxLen; omega); simp [Value.oneCell', fcell]; (have := hlf.out; unfold maxLen; omega); (have := hlf.out; omega); intro v' w' hs' hc'; have x1' := hc'.cellOf (((Chg.refl (fun _ => False) wr).alloc _).cellOf x1 (fun e => e)) (fun e => by have e : w.heap.size ≤ x.1 := e; omega))
      go_roundw
      case rel =>
        obtain ⟨a', cap', rfl⟩ := hs'.shape
        refine ⟨l1 ++ [x], l2, a', cap', by simp, rfl, by simp, ?_, hbw.trans (((Chg.refl (fun j => w.heap.size ≤ j) wr).alloc _).trans hc' |>.below hsz (fun i hi e => by omega))⟩
        have e1 : (l1 ++ [x]).length = l1.length + 1 := by simp
        rw [e1, List.map_append, List.map_cons, List.map_nil, hfs.out]
        exact hs'.mono (fun k _ e => by rcases e with e | e; exact e; (simp at e; omega))
      case measure =>
        show toGo _ _ < toGo _ _
        have h1 := hm.out
        have h2 := hm2.out
        simp only [qb] at *
        rw [h1, h2]; simp
    | nil =>
      have hq := ptr_eq wr rb
      simp only [hd_nil] at *
      go_wp2_with fail
      go_ret
      have hfr := HFR.out
      rw [List.append_nil] at hfr
      have e1 : l1.length = s.frames.length := by rw [← hfr]; simp
      rw [hfr, e1] at hsl
      exact ⟨⟨a, cap, by rw [← e1]; rfl, hsl⟩, hbw⟩
theorem keepN_apart {l1 l2 : List (Nat × Frm)} (h : Apart (l1 ++ l2)) : Apart (keepN l1 ++ l2) :=
  (((List.filter_sublist (p := fun x : Nat × Frm => x.2.stays) (l := l1)).append (List.Sublist.refl l2)).map _).nodup h
set_option maxHeartbeats 2000000 in
theorem cdrop_any (h : CacheIn w col c b s db rb mb ns) (hc : 1 < c) (hnm : Norm w col) (ok : s.Ok) :
    Calls Try.prog 16 #[ptr b] w fun e w' => e = .returned (.int .i64 ((s.frames.length : Int) - s.drop.frames.length)) ∧ Now w col c b db s.drop w' (fun _ => True) := by
  have hlen : ns.length ≤ 4096 := by have := ok.len; have := ok.room1; have := congrArg List.length h.fr; simp at this; omega
  have hnd := h.ring.nodup
  have hb1 := h.block
  obtain ⟨-, -, c2, -, -, -, -, -, -⟩ := cells_cache h.block
  obtain ⟨v0, hv0⟩ := ring_head h.ring
  obtain ⟨-, r1, -, -, -, -, -, -⟩ := cells_node hv0
  unfold ptr at c2 r1
  have HL := Lib.hid hlen
  have HA := Lib.hid (apart_of_ok ok h.fr)
  have HFR := Lib.hid h.fr
  have HNM := Lib.hid hnm
  have HS : Hid (∀ x ∈ ns, 0 ≤ x.2.sector ∧ x.2.sector < 4097) := fun x hx => by
    have hm : x.2 ∈ s.frames := by rw [← h.fr]; exact List.mem_map_of_mem hx
    have := ok.at0 _ hm
    have := ok.d.count1
    omega
  have HK := Lib.hid (KStep.refl c hnm)
  go_enter Try.func16, Try.ntmps16
  go_wp2_with fail
  refine (cmade_any hb1).mono ?_
  rintro e w1 ⟨rfl, rfl⟩
  unfold ptr
  go_wp2_with fail
  go_loopw [3, 4] (fun i q wr => ∃ l1 l2, ns = l1 ++ l2 ∧ q = .pointer (some ⟨hd l2 rb, 0, none⟩) ∧ i = .int .i64 ((l1.length - (keepN l1).length : Nat) : Int) ∧ CacheIn wr col c b { s with frames := (keepN l1 ++ l2).map Prod.snd } db rb mb (keepN l1 ++ l2) ∧ KStep c col col w wr) (fun _ q _ => toGo ns (qb q))
  case atStart => exact ⟨[], ns, rfl, rfl, rfl, by show CacheIn w col c b { s with frames := ns.map Prod.snd } db rb mb ns; rw [HFR.out]; exact h, HK.out⟩
  case round =>
    obtain ⟨l1, l2, rfl, rfl, rfl, hwr, kwr⟩ := hrel
    clear c2 r1 hv0 h hb1
    obtain ⟨-, -, c2, -, -, -, -, -, -⟩ := cells_cache hwr.block
    obtain ⟨v1, hv1⟩ := ring_head hwr.ring
    obtain ⟨-, r1, -, -, -, -, -, -⟩ := cells_node hv1
    unfold ptr at c2 r1
    have hkl := List.length_filter_le (fun x : Nat × Frm => x.2.stays) l1
    have hkl' : (keepN l1).length ≤ l1.length := hkl
    have hl4 : l1.length ≤ 4096 := by simp at hlen; omega
    have HKL := Lib.hid hkl'
    have hib : ((l1.length - (keepN l1).length : Nat) : Int) ≤ 4096 := by omega
    have hi0 : (0 : Int) ≤ ((l1.length - (keepN l1).length : Nat) : Int) := by omega
    clear hkl hkl'
    cases l2 with
    | cons x l2 =>
      have hne := hd_ne hwr.ring
      obtain ⟨p, v, hv, _⟩ := ring_cells hwr.ring
      obtain ⟨-, x1, -, x3, x4, -, -, -⟩ := cells_node hv
      unfold ptr at x1
      have hq := ptr_ne hne hv hv1
      have hm := Lib.hid (toGo_at hnd)
      have hm2 : Hid (toGo (l1 ++ x :: l2) (hd l2 rb) = l2.length) := by
        have h := toGo_at (l1 := l1 ++ [x]) (l2 := l2) (rb := rb) (by simpa using hnd)
        show _ = _
        rw [List.append_assoc] at h; exact h
      have hks := Lib.hid (keepN_snoc l1 x)
      have H := Lib.hid hwr
      have K := Lib.hid kwr
      have HV := Lib.hid hv
      have HSX := Lib.hid (HS.out x (by simp))
      have HAX := Lib.hid (keepN_apart HA.out)
      clear hv hv1 hwr kwr hnd hlen ok hnm
      simp only [hd_cons] at *
      generalize hI : ((l1.length - (keepN l1).length : Nat) : Int) = I at *
      have HI := Lib.hid hI
      clear hI
      cases hdi : x.2.dirty with
      | true =>
        have hst : x.2.stays = true := by simp [Frm.stays, hdi]
        have HST := Lib.hid hst
        rw [hdi] at x4
        clear hst hdi
        go_wp2_with fail
        go_roundw
        case rel =>
          have e1 := hks.out
          rw [if_pos HST.out] at e1
          refine ⟨l1 ++ [x], l2, by simp, rfl, ?_, ?_, K.out⟩
          · rw [e1, ← HI.out]; simp
          · rw [e1, List.append_assoc]; exact H.out
        case measure =>
          show toGo _ _ < toGo _ _
          have h1 := hm.out
          have h2 := hm2.out
          simp only [qb] at *
          rw [h1, h2]; simp
      | false =>
        rw [hdi] at x4
        by_cases hp : x.2.pins = 0
        · have hst : x.2.stays = false := by simp [Frm.stays, hdi, hp]
          have hp' : (x.2.pins == 0) = true := by simp [hp]
          have HST := Lib.hid hst
          clear hst hdi hp
          go_wp2_with fail
          refine (drop_any H.out hc HAX.out K.out.norm HSX.out).mono ?_
          rintro e w2 ⟨rfl, h2, k2, ho⟩
          obtain ⟨-, x1', -, -, -, -, -, -⟩ := cells_node (ho.trans HV.out)
          unfold ptr at x1'
          have H2 := Lib.hid h2
          have K2 := Lib.hid k2
          clear h2 k2 ho x1 x3 x4 c2 r1 hq
          go_wp2_with fail
          go_roundw
          case rel =>
            have e1 := hks.out
            rw [if_neg (by rw [HST.out]; decide), List.append_nil] at e1
            refine ⟨l1 ++ [x], l2, by simp, rfl, ?_, ?_, K.out.trans K2.out⟩
            · rw [e1, ← HI.out]
              have := HKL.out
              simp; omega
            · rw [e1]; exact H2.out
          case measure =>
            show toGo _ _ < toGo _ _
            have h1 := hm.out
            have h2 := hm2.out
            simp only [qb] at *
            rw [h1, h2]; simp
        · have hst : x.2.stays = true := by simp [Frm.stays, hdi, hp]
          have hp' : (x.2.pins == 0) = false := by simp [hp]
          have HST := Lib.hid hst
          clear hst hdi hp
          go_wp2_with fail
          go_roundw
          case rel =>
            have e1 := hks.out
            rw [if_pos HST.out] at e1
            refine ⟨l1 ++ [x], l2, by simp, rfl, ?_, ?_, K.out⟩
            · rw [e1, ← HI.out]; simp
            · rw [e1, List.append_assoc]; exact H.out
          case measure =>
            show toGo _ _ < toGo _ _
            have h1 := hm.out
            have h2 := hm2.out
            simp only [qb] at *
            rw [h1, h2]; simp
    | nil =>
      have hq := ptr_eq wr rb
      simp only [hd_nil] at *
      have H := Lib.hid hwr
      have K := Lib.hid kwr
      clear hwr kwr hib hi0
      go_wp2_with fail
      go_ret
      have hfr := HFR.out
      rw [List.append_nil] at hfr
      have h0 := H.out
      rw [List.append_nil, keepN_map, hfr] at h0
      have e1 : l1.length = s.frames.length := by rw [← hfr]; simp
      have e2 : (keepN l1).length = s.drop.frames.length := by
        have := congrArg List.length (keepN_map l1)
        rw [hfr] at this
        simpa [CS.drop] using this
      have := HKL.out
      refine ⟨?_, col, ⟨_, _, _, h0⟩, K.out, trivial⟩
      show Ending.returned (Value.int IntKind.i64 ((l1.length - (keepN l1).length : Nat) : Int)) = _
      rw [e1, e2]
      congr 2
      omega
theorem cnew_any (hd : DiskAt w 86 col c db s.d) (hc : 1 < c) (hnm : Norm w col) (room : Int) (hr : 1 ≤ room ∧ room ≤ 4096) :
    Calls Try.prog 26 #[ptr db, .int .i64 room] w fun e w' => e = .returned (.tuple #[ptr (w.heap.size + 2), .int .i64 0]) ∧ Now w col c (w.heap.size + 2) db (CS.new s.d room) w' (fun _ => True) := by
  refine (newcache_ok w db room hr).mono ?_
  rintro e w' ⟨rfl, k, hz, b0, b1, b2⟩
  have hext : Ext w.heap.size col (colN col w.heap.size c) := fun i hi => by unfold colN; rw [if_pos hi]
  have hat : ∀ i, w.heap.size ≤ i → i < w.heap.size + 3 → colN col w.heap.size c i = c + 3 := fun i h1 h2 => by unfold colN; rw [if_neg (by omega), if_pos h2]
  have hdb := hd.lt
  refine ⟨rfl, colN col w.heap.size c, ⟨w.heap.size, w.heap.size + 1, [], b2 s.d, hat _ (by omega) (by omega), hd.keep (fun i hi _ => k.block i hi) hext k.size, rfl, ⟨⟨⟨_, b0, ?_⟩, trivial⟩, by simp [blks], fun i hi => ?_⟩, fun i hi => ?_, ?_, hat _ (by omega) (by omega)⟩, ⟨hext, Chg.of_below k, fun i hi => by unfold colN; rw [if_neg (by omega), if_neg (by omega)]⟩, trivial⟩
  · exact ⟨by simp [f0], _, _, rfl, Nat.le_refl _, by unfold maxLen; omega, fun h => by simp [f0] at h⟩
  · simp [blks] at hi; subst hi; rw [hat _ (by omega) (by omega)]; omega
  · simp [blks] at hi; subst hi; exact hat _ (by omega) (by omega)
  · refine ⟨.map [], ⟨#[], 0, b1, ?_⟩, ⟨fun n => rfl, fun n => rfl, rfl⟩⟩
    obtain ⟨es, clock, h1, h2⟩ := World.ownsMap_made (H := Unit) w Try.prog 3 ptrElem
    have h3 := block_new w (.map #[] 0)
    rw [h3] at h1
    injection h1 with h1
    injection h1 with h1 h4
    subst h1 h4
    exact h2
end
end Go.Proofs.Ytjjgihaikcnjgaa
