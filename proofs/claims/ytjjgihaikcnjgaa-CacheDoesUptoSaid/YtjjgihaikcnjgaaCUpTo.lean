/-
  WriteUpTo of package cache.
-/
import Derived.Test.YtjjgihaikcnjgaaCSort
namespace Go.Proofs.Ytjjgihaikcnjgaa
open Go.RowKit Go.Maps
set_option linter.unusedSimpArgs false
set_option linter.unusedVariables false
set_option maxRecDepth 100000

theorem info53 : (Try.prog.info? 53).map (fun i => (i.zero, i.size, i.bytes)) = some (some (.pointer none), 1, 8) := by kernel_rfl
theorem CacheIn.drew {w : World} {col : Nat → Nat} {c b db rb mb : Nat} {s : CS} {ns : List (Nat × Frm)} (h : CacheIn w col c b s db rb mb ns) : CacheIn w.drew col c b s db rb mb ns := h.keep (fun _ _ _ => rfl) (Ext.refl _ _) (Nat.le_refl _)
theorem KStep.drew {w w' : World} {c : Nat} {col col' : Nat → Nat} (h : KStep c col col' w w') : KStep c col col' w w'.drew := ⟨h.ext, h.chg.drew, h.norm⟩
theorem KStep.rd {w w' : World} {c : Nat} {col col' : Nat → Nat} {size n : Nat} {v : Value} {xs : List Value} (k : KStep c col col' w w') (hc : 1 < c) (h : RdAt w (Nil0 col) size v n xs) : RdAt w' (Nil0 col') size v n xs :=
  h.keep (fun i hi e => k.chg.block i hi (fun e' => by unfold Nil0 at e; unfold inK at e'; omega)) (fun i hi e => (k.ext i hi).trans e) k.chg.size
theorem KStep.sl {w w' : World} {c : Nat} {col col' : Nat → Nat} {e : TypeId} {size n : Nat} {v : Value} {xs : List Value} (k : KStep c col col' w w') (hc : 1 < c) (h : SlAt w (Nil0 col) e size v n xs) : SlAt w' (Nil0 col') e size v n xs :=
  h.keep (fun i hi e => k.chg.block i hi (fun e' => by unfold Nil0 at e; unfold inK at e'; omega)) (fun i hi e => (k.ext i hi).trans e)
/-- a frame is written to the disk -/
theorem write_frame {w : World} {col : Nat → Nat} {c b db rb mb : Nat} {s : CS} {ns : List (Nat × Frm)} (h : CacheIn w col c b s db rb mb ns) (hc : 1 < c) (hnm : Norm w col) (ok : s.d.Ok) (hp : s.d.pending.length ≤ 1073741824) (f : Frm) (v : Value) (hv : BytesAt w (fun k => col k = 1) v f.bytes) (h0 : 0 ≤ f.sector ∧ f.sector < s.d.count) (hl : (f.bytes.length : Int) = s.d.size) :
    Calls Try.prog 47 #[ptr db, .int .i64 f.sector, v] w fun e w' => e = .returned (.int .i64 0) ∧ ∃ col', CacheIn w' col' c b { s with d := s.d.wrote f.sector f.bytes } db rb mb ns ∧ Step c col col' w w' := by
  refine (write_ok w col c db s.d f.sector (fun k => col k = 1) v f.bytes h.disk hc (by have := ok.size0; omega) ok.left hv h0.1 h0.2 hl ok.size1 hp (fun k e e' => by unfold inC at e'; omega) hnm).mono ?_
  rintro e w' ⟨rfl, ⟨col', hd, he, hn'⟩, hk⟩
  have hw : s.d.wrote f.sector f.bytes = s.d.write f.sector f.bytes := by
    unfold DS.wrote; rw [fit_iff.2 ⟨h0.1, h0.2, hl⟩]; rfl
  have st : Step c col col' w w' := ⟨he, hk, hn'⟩
  exact ⟨rfl, col', by rw [hw]; exact h.disked hc st hd, st⟩
theorem write1_end {w : World} {col : Nat → Nat} {c b db rb mb : Nat} {S : CS} {m1 m2 : List (Nat × Frm)} {y : Nat × Frm} (h : CacheIn w col c b { S with d := S.d.wrote y.2.sector y.2.bytes } db rb mb (m1 ++ y :: m2)) (hc : 1 < c) (hn : Norm w col) (ha : Apart (m1 ++ y :: m2)) :
    CacheIn (((w.setCell ⟨y.1, 4, none⟩ (.bool false)).setCell ⟨y.1, 5, none⟩ (.int .u64 0)).setCell ⟨b, 6, none⟩ (.int .i64 (wrap64 (S.writes + 1)))) col c b (S.write1 y.2) db rb mb (m1 ++ (y.1, y.2.clean) :: m2) ∧
      KStep c col col w (((w.setCell ⟨y.1, 4, none⟩ (.bool false)).setCell ⟨y.1, 5, none⟩ (.int .u64 0)).setCell ⟨b, 6, none⟩ (.int .i64 (wrap64 (S.writes + 1)))) := by
  obtain ⟨v, hv, hby⟩ := h.node
  have hcy := h.cr _ h.mem
  have hcb := h.cb
  have k1 : Chg (fun i => i = y.1) w ((w.setCell ⟨y.1, 4, none⟩ (.bool false)).setCell ⟨y.1, 5, none⟩ (.int .u64 0)) := ((Chg.refl (fun i => i = y.1) w).setCell ⟨y.1, 4, none⟩ (.bool false) (fun _ => rfl)).setCell ⟨y.1, 5, none⟩ (.int .u64 0) (fun _ => rfl)
  have h4 := h.turn hc k1 (f' := y.2.clean) (v' := v) (by rw [block_set (block_set hv 4 (.bool false)) 5 (.int .u64 0)]; rfl) (hby.chg k1 (fun k e e' => by have e' : k = y.1 := e'; subst e'; omega)) rfl
  have k2 : Chg (fun i => i = b) ((w.setCell ⟨y.1, 4, none⟩ (.bool false)).setCell ⟨y.1, 5, none⟩ (.int .u64 0)) (((w.setCell ⟨y.1, 4, none⟩ (.bool false)).setCell ⟨y.1, 5, none⟩ (.int .u64 0)).setCell ⟨b, 6, none⟩ (.int .i64 (wrap64 (S.writes + 1)))) := (Chg.refl (fun i => i = b) _).setCell ⟨b, 6, none⟩ _ (fun _ => rfl)
  refine ⟨h4.cells hc k2 (s' := S.write1 y.2) (by rw [block_set h4.block 6]; rfl) rfl ?_, KStep.of hn ((k1.mono (fun i _ e => Or.inl e)).trans (k2.mono (fun i _ e => Or.inr e)) : Chg (fun i => i = y.1 ∨ i = b) w _) (fun i e => by unfold inK; rcases e with rfl | rfl <;> omega)⟩
  have hfr := h.fr
  show (S.frames.map fun g => if Frm.is y.2.sector g then g.clean else g) = (m1 ++ (y.1, y.2.clean) :: m2).map Prod.snd
  rw [← step1N_split ha, step1N_frames, hfr]
theorem due_filter (l : List (Nat × Frm)) (x : Nat × Frm) (o : Int) : ((l ++ [x]).filter (fun x => Frm.due o x.2)).map (fun x => ptr x.1) = (l.filter (fun x => Frm.due o x.2)).map (fun x => ptr x.1) ++ (if Frm.due o x.2 then [ptr x.1] else []) := by
  rw [List.filter_append, List.map_append]
  congr 1
  by_cases h : Frm.due o x.2 = true <;> simp [h]
structure UpTells (w : World) (col : Nat → Nat) (c b db rb mb : Nat) (s : CS) (ns : List (Nat × Frm)) (o : Int) (col' : Nat → Nat) (w' : World) : Prop where
  now : CacheIn w' col' c b (s.upTo o) db rb mb (foldN ns (dueN ns o))
  step : KStep c col col' w w'
set_option maxHeartbeats 4000000 in
theorem upTo_any {w : World} {col : Nat → Nat} {c b db rb mb : Nat} {s : CS} {ns : List (Nat × Frm)} (h : CacheIn w col c b s db rb mb ns) (hc : 1 < c) (hnm : Norm w col) (ok : s.Ok) (hp : s.d.pending.length ≤ 1073700000) (o : Int) :
    Calls Try.prog 18 #[ptr b, .int .u64 o] w fun e w' => e = .returned (.int .i64 0) ∧ ∃ col', UpTells w col c b db rb mb s ns o col' w' := by
  obtain ⟨i0, hi, hz0, hz1, hz2⟩ := info_parts info53
  have ha := apart_of_ok ok h.fr
  have hlen : ns.length ≤ 4096 := by have := ok.len; have := ok.room1; have := congrArg List.length h.fr; simp at this; omega
  have hnd := h.ring.nodup
  have hb1 := h.block
  obtain ⟨-, -, c2, -, -, -, -, -, -⟩ := cells_cache h.block
  obtain ⟨v0, hv0⟩ := ring_head h.ring
  obtain ⟨-, r1, -, -, -, -, -, -⟩ := cells_node hv0
  unfold ptr at c2 r1
  have Hlt := Lib.hid h.ring.lt
  have HL := Lib.hid hlen
  go_enter Try.func18, Try.ntmps18
  go_wp2_with fail
  refine (cmade_any hb1).mono ?_
  rintro e w1 ⟨rfl, rfl⟩
  unfold ptr
  go_wp2_with fail
  go_loopw [5, 6] (fun v5 q wr => ∃ l1 l2 a cap, ns = l1 ++ l2 ∧ q = .pointer (some ⟨hd l2 rb, 0, none⟩) ∧ v5 = .slice a (l1.filter (fun x => Frm.due o x.2)).length cap ∧ SlAt wr (fun k => w.heap.size ≤ k) 53 1 v5 (l1.filter (fun x => Frm.due o x.2)).length ((l1.filter (fun x => Frm.due o x.2)).map (fun x => ptr x.1)) ∧ Below w.heap.size w wr) (fun _ q _ => toGo ns (qb q))
  case atStart => exact ⟨[], ns, none, 0, rfl, rfl, rfl, SlAt.nil _ _ _ _ _, Below.refl _ _⟩
  case round =>
    obtain ⟨l1, l2, a, cap, rfl, rfl, rfl, hsl, hbw⟩ := hrel
    have hwr := h.below hbw
    clear c2 r1 hv0
    obtain ⟨-, -, c2, -, -, -, -, -, -⟩ := cells_cache hwr.block
    obtain ⟨v1, hv1⟩ := ring_head hwr.ring
    obtain ⟨-, r1, -, -, -, -, -, -⟩ := cells_node hv1
    unfold ptr at c2 r1
    have hsz := hbw.size
    cases l2 with
    | cons x l2 =>
      have hne := hd_ne hwr.ring
      obtain ⟨p, v, hv, _⟩ := ring_cells hwr.ring
      obtain ⟨-, x1, -, -, x4, x5, -, -⟩ := cells_node hv
      unfold ptr at x1
      have hq := ptr_ne hne hv hv1
      have hxl : x.1 < w.heap.size := Hlt.out _ (by simp [blks])
      have hm := Lib.hid (toGo_at hnd)
      have hm2 : Hid (toGo (l1 ++ x :: l2) (hd l2 rb) = l2.length) := by
        have h := toGo_at (l1 := l1 ++ [x]) (l2 := l2) (rb := rb) (by simpa using hnd)
        show _ = _
        rw [List.append_assoc] at h; exact h
      have hf := Lib.hid (due_filter l1 x o)
      have hlf : Hid ((l1.filter (fun x => Frm.due o x.2)).length + 1 ≤ 4097) := by
        have h1 := List.length_filter_le (fun x : Nat × Frm => Frm.due o x.2) l1
        have h2 := HL.out
        show _ ≤ _
        simp at h2; omega
      have hlf2 : Hid ((((l1 ++ [x]).filter (fun x => Frm.due o x.2))).length = (l1.filter (fun x => Frm.due o x.2)).length + (if Frm.due o x.2 then 1 else 0)) := by
        show _ = _
        rw [List.filter_append, List.length_append]
        congr 1
        by_cases h : Frm.due o x.2 = true <;> simp [h]
      have HX : ∀ q, Hid (q = Frm.due o x.2 → q = (x.2.dirty && decide (x.2.order ≤ o))) := fun q h => h
      clear h hv hv1 hwr hnd ha hlen ok hp hb1 HX
      simp only [hd_cons] at *
      generalize l1.filter (fun x => Frm.due o x.2) = F at *
      by_cases hdi : x.2.dirty = true
      · by_cases hoo : x.2.order ≤ o
        · have hdue : Frm.due o x.2 = true := by simp [Frm.due, hdi, hoo]
          have HD := Lib.hid hdue
          rw [hdi] at x4
          clear hdue hdi
          go_wp2_with (at_builtin; go_must (refine wpList_append_sl rfl _ _ 89 rfl 53 i0 (.pointer none) 1 8 Try.underlying89 hi hz0 hz1 hz2 rfl (fun k => w.heap.size ≤ k) _ F.length (F.map (fun x => ptr x.1)) rfl ?_ (fun j => j = wr.heap.size) _ 1 [ptr x.1] rfl ?_ ?_ ?_ ?_ ?_); exact hsl.below ((Below.refl _ _).alloc (Nat.le_refl _) _); exact rd_newG rfl rfl (by unfold maxLen; omega); simp [Value.oneCell', ptr]; (have := hlf.out; unfold maxLen; omega); (have := hlf.out; omega); intro v' w' hs' hc'; have x1' := hc'.cellOf (((Chg.refl (fun _ => False) wr).alloc _).cellOf x1 (fun e => e)) (fun e => by have e : w.heap.size ≤ x.1 := e; omega))
          go_roundw
          case rel =>
            obtain ⟨a', cap', rfl⟩ := hs'.shape
            refine ⟨l1 ++ [x], l2, a', cap', by simp, rfl, by rw [hlf2.out, if_pos HD.out], ?_, hbw.trans (((Chg.refl (fun j => w.heap.size ≤ j) wr).alloc _).trans hc' |>.below hsz (fun i hi e => by omega))⟩
            rw [hlf2.out, if_pos HD.out, hf.out, if_pos HD.out]
            exact hs'.mono (fun k _ e => by rcases e with e | e; exact e; (simp at e; omega))
          case measure =>
            show toGo _ _ < toGo _ _
            have h1 := hm.out
            have h2 := hm2.out
            simp only [qb] at *
            rw [h1, h2]; simp
        · have hdue : Frm.due o x.2 = false := by simp [Frm.due, hdi, hoo]
          have HD := Lib.hid hdue
          rw [hdi] at x4
          clear hdue hdi
          go_wp2
          go_roundw
          case rel =>
            refine ⟨l1 ++ [x], l2, a, cap, by simp, rfl, by rw [hlf2.out, if_neg (by rw [HD.out]; decide)]; rfl, ?_, hbw⟩
            rw [hlf2.out, if_neg (by rw [HD.out]; decide), hf.out, if_neg (by rw [HD.out]; decide), List.append_nil]
            exact hsl
          case measure =>
            show toGo _ _ < toGo _ _
            have h1 := hm.out
            have h2 := hm2.out
            simp only [qb] at *
            rw [h1, h2]; simp
      · have hdue : Frm.due o x.2 = false := by simp [Frm.due, hdi]
        have HD := Lib.hid hdue
        rw [show x.2.dirty = false by simpa using hdi] at x4
        clear hdue hdi
        go_wp2
        go_roundw
        case rel =>
          refine ⟨l1 ++ [x], l2, a, cap, by simp, rfl, by rw [hlf2.out, if_neg (by rw [HD.out]; decide)]; rfl, ?_, hbw⟩
          rw [hlf2.out, if_neg (by rw [HD.out]; decide), hf.out, if_neg (by rw [HD.out]; decide), List.append_nil]
          exact hsl
        case measure =>
          show toGo _ _ < toGo _ _
          have h1 := hm.out
          have h2 := hm2.out
          simp only [qb] at *
          rw [h1, h2]; simp
    | nil =>
      have hq := ptr_eq wr rb
      simp only [hd_nil] at *
      have e0 : l1 ++ [] = l1 := List.append_nil l1
      rw [e0] at h hwr ha hnd hlen HL Hlt ⊢
      clear e0
      have hfl : (l1.filter (fun x => Frm.due o x.2)).length = (dueN l1 o).length := by unfold dueN; simp
      have hfl2 : (dueN l1 o).length ≤ 4096 := by
        have := List.length_filter_le (fun x : Nat × Frm => Frm.due o x.2) l1
        omega
      rw [hfl] at hsl ⊢
      have HLn := Lib.hid hfl2
      clear hfl hfl2 hlen hb1
      generalize hLL : (dueN l1 o).length = n at *
      go_wp2_with fail
      refine (sort_any hwr ha o w.heap.size n _ Hlt.out hsl HLn.out).mono ?_
      rintro e w2 ⟨rfl, hrd, k2⟩
      have hw2 : CacheIn w2 col c b s db rb mb l1 := hwr.keep (fun k hk e => k2.block k hk (fun e' => by
        have : col k = 0 := hnm k e'
        rcases e with e | e
        · omega
        · unfold inK at e; omega)) (Ext.refl _ _) k2.size
      have st2 : KStep c col col w w2 := KStep.below hnm (hbw.trans (k2.below hsz (fun i hi e => by omega)))
      have hrd2 : RdAt w2 (Nil0 col) 1 (.slice a n cap) n ((dueN l1 o).map (fun x => ptr x.1)) := hrd.mono (fun k _ e => hnm k e)
      clear hrd k2 hwr hbw hsl c2 r1 hv1 hq v1
      go_wp2_with fail
      go_loopw [8, 9, 52] (fun _ _ i wr => ∃ (j : Nat) (col' : Nat → Nat), j ≤ n ∧ i = .int .i64 j ∧ CacheIn wr col' c b (foldS s ((dueN l1 o).take j)) db rb mb (foldN l1 ((dueN l1 o).take j)) ∧ KStep c col col' w wr ∧ RdAt wr (Nil0 col') 1 (.slice a n cap) n ((dueN l1 o).map (fun x => ptr x.1))) (fun _ _ i _ => n - (intOf i).toNat)
      case atStart => exact ⟨0, col, Nat.zero_le _, rfl, hw2, st2, hrd2⟩
      case round =>
        obtain ⟨j, col', hj, rfl, hJ, stJ, hrdJ⟩ := hrel
        clear hw2 st2 hrd2
        by_cases hlt : j < n
        · have hjl : j < (dueN l1 o).length := by omega
          have hy := dueN_next ha o hjl
          have hmem := (dueN_mem.1 (List.getElem_mem hjl)).1
          have hall : ∀ y ∈ l1, (0 ≤ y.2.sector ∧ y.2.sector < s.d.count) ∧ (y.2.bytes.length : Int) = s.d.size := fun y hy => by
            have : y.2 ∈ s.frames := by rw [← h.fr]; exact List.mem_map_of_mem hy
            exact ⟨ok.at0 _ this, ok.size _ this⟩
          have okJ := foldS_Ok ((dueN l1 o).take j) s ok (fun y hy => hall y (dueN_mem.1 (List.mem_of_mem_take hy)).1)
          have hallY := hall _ hmem
          have nxN : foldN l1 ((dueN l1 o).take (j + 1)) = step1N (foldN l1 ((dueN l1 o).take j)) (dueN l1 o)[j] := by rw [List.take_succ_eq_append_getElem hjl, foldN_snoc]
          have nxS : foldS s ((dueN l1 o).take (j + 1)) = (foldS s ((dueN l1 o).take j)).write1 (dueN l1 o)[j].2 := by rw [List.take_succ_eq_append_getElem hjl, foldS_snoc]
          have haJ : Apart (foldN l1 ((dueN l1 o).take j)) := foldN_apart ha
          obtain ⟨g, off, rfl, _, hg, hcs⟩ := hrdJ.get (by omega)
          have c1 := hcs j (ptr (dueN l1 o)[j].1) (by simp [hjl])
          generalize (dueN l1 o)[j] = y at *
          obtain ⟨m1, m2, hsp⟩ := List.append_of_mem hy
          rw [hsp] at hJ nxN haJ
          rw [step1N_split haJ] at nxN
          obtain ⟨okJ1, okJ2, okJ3, okJ4⟩ := okJ
          have htk : ((dueN l1 o).take j).length ≤ 4096 := by rw [List.length_take]; have := HLn.out; omega
          have okS : (foldS s ((dueN l1 o).take j)).d.Ok := okJ1.d
          have hp' : (foldS s ((dueN l1 o).take j)).d.pending.length ≤ 1073741824 := by omega
          rw [← okJ2, ← okJ3] at hallY
          generalize foldS s ((dueN l1 o).take j) = S at *
          have nodeJ := hJ.node
          obtain ⟨v, hv, hby⟩ := nodeJ
          obtain ⟨-, -, x2, -, -, -, x6, -⟩ := cells_node hv
          obtain ⟨av, capv, rfl⟩ := hby.shape
          obtain ⟨c0, -, -, -, -, -, -, -, -⟩ := cells_cache hJ.block
          have i0' : (0 : Int) ≤ (j : Int) := by omega
          have i1' : (j : Int) < (n : Int) := by omega
          have jb : (j : Int) ≤ 4096 := by have := HLn.out; omega
          have HA := Lib.hid haJ
          have HN := Lib.hid nxN
          have HS := Lib.hid nxS
          have HJ := Lib.hid hJ
          have HST := Lib.hid stJ
          have HRD := Lib.hid hrdJ
          have HB := Lib.hid hby
          have HOK := Lib.hid okS
          have HPP := Lib.hid hp'
          have HY := Lib.hid hallY
          clear hall hmem hcs hy hsp haJ okJ1 okJ2 okJ3 okJ4 htk hallY nxN nxS hJ stJ hrdJ hv hby h ha hnd okS hp' ok hp hLL
          unfold ptr at c1 c0
          go_wp2_with fail
          go_still_tail 13, (by kernel_rfl)
          change wpList _ _ _ _ _ wr.drew
          go_wp2_with fail
          refine (write_frame HJ.out.drew hc HST.out.norm HOK.out HPP.out y.2 _ HB.out HY.out.1 HY.out.2).mono ?_
          rintro e w3 ⟨rfl, col'', hJ3, st3⟩
          have hn3 := hJ3.node
          obtain ⟨v3, hv3, hby3⟩ := hn3
          obtain ⟨-, -, -, -, y4, y5, -, yf⟩ := cells_node hv3
          obtain ⟨-, -, -, -, -, -, s6, -, sf⟩ := cells_cache hJ3.block
          have yf4 := yf 4
          have yf5 := yf 5
          have sf6 := sf 6
          have nb1 : b ≠ y.1 := fun e => hJ3.nb (e ▸ hJ3.mem)
          have nb2 := nb1.symm
          have H3 := Lib.hid hJ3
          have HV3 := Lib.hid hv3
          have HB3 := Lib.hid hby3
          have HS3 := Lib.hid st3
          clear hJ3 hv3 hby3 st3 c0 c1 x2 x6 yf sf
          simp only at s6
          go_wp2_with fail
          have HE := Lib.hid (write1_end H3.out hc HS3.out.norm HA.out)
          go_roundw
          case rel =>
            obtain ⟨hE, stE⟩ := HE.out
            have hn4 := HLn.out
            refine ⟨j + 1, col'', by omega, by go_num, ?_, ?_, ?_⟩
            · rw [HN.out, HS.out]; exact hE
            · exact HST.out.drew.trans (HS3.out.k.trans stE)
            · exact stE.rd hc (HS3.out.rd hc (HRD.out.keep (fun _ _ _ => rfl) (fun _ _ e => e) (Nat.le_refl _)))
          case measure =>
            have hn4 := HLn.out
            simp [intOf]; omega
        · obtain rfl : j = n := by omega
          go_wp2_with fail
          go_ret
          have e1 : (dueN l1 o).take j = dueN l1 o := List.take_of_length_le (by omega)
          rw [e1] at hJ
          rw [upTo_foldS h.fr] at hJ
          exact ⟨rfl, col', by rw [List.append_nil]; exact ⟨hJ, stJ⟩⟩
end Go.Proofs.Ytjjgihaikcnjgaa
