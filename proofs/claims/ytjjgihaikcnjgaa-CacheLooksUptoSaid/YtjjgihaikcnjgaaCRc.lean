/-
  The document's cache: Get.
-/
import Derived.Test.YtjjgihaikcnjgaaCRb
import Derived.Test.YtjjgihaikcnjgaaCOps
import Derived.Test.YtjjgihaikcnjgaaCRest
namespace Go.Proofs.Ytjjgihaikcnjgaa
open Go.RowKit Go.Maps
set_option linter.unusedSimpArgs false
set_option linter.unusedVariables false
set_option maxRecDepth 100000

section
variable {w : World} {col : Nat → Nat} {c b db : Nat} {s : CS} {fv : Value} {fs : List (Frm × Value)}
/-- one is added -/
theorem RCacheIn.addEnd (h : RCacheIn w col c b s db fv fs) (hc : 1 < c) (hn : Norm w col) {w6 w6' w7 : World} {f : Frm} {v6 v7 : Value} (k6 : Below w.heap.size w w6) (r6 : BytesAt w6 (fun k => w.heap.size ≤ k) v6 f.bytes) (ka : Below w6.heap.size w6 w6')
    (hc7 : Chg (fun k => k < w.heap.size ∧ col k = c + 4) w6' w7) (hs7 : SlAt w7 (fun k => (k < w.heap.size ∧ col k = c + 4) ∨ k = w6'.heap.size) 121 5 v7 (fs.length + 1) (rcells fs ++ rc f v6)) (s' : CS) (hs : s' = s.added f) :
    ∃ col', RCacheIn (w7.setCell ⟨b, 2, none⟩ v7) col' c b s' db v7 (fs ++ [(f, v6)]) ∧ KStep c col col' w (w7.setCell ⟨b, 2, none⟩ v7) := by
  subst hs
  have s6 := k6.size
  have sa := ka.size
  have s7 := hc7.size
  have k67 : Below w.heap.size w w6' := k6.trans (ka.mono s6)
  have k7 : Chg (fun i => i < w.heap.size ∧ col i = c + 4) w w7 := Chg.trans' (Chg.of_below k67) hc7 (fun i hi e => e)
  have hlt : ∀ i, col i = 1 → i < w.heap.size := fun i e => Nat.lt_of_not_le (fun e' => by rw [hn i e'] at e; cases e)
  refine h.relist hc hn k7 (fun k => k < w6.heap.size) (fs' := fs ++ [(f, v6)]) (v' := v7) ?_ (fun p hp => ?_) (s.added f) (by unfold CS.added; rw [List.map_append, h.fr]; rfl)
  · rw [rcells_append, List.length_append]
    have e : rcells [(f, v6)] = rc f v6 := by simp [rcells]
    rw [e]
    refine hs7.mono (fun i hi e => ?_)
    rcases e with e | e
    · exact Or.inr e
    · exact Or.inl (by subst e; omega)
  · rcases List.mem_append.1 hp with hp | hp
    · refine (h.bytes p hp).keep (fun i hi e => k7.block i hi (fun e' => by have := e'.2; omega)) (fun i hi e => Or.inl e) k7.size
    · simp at hp
      subst hp
      refine r6.keep (fun i hi e => ?_) (fun i hi e => Or.inr ⟨e, hi⟩) (Nat.le_trans sa s7)
      rw [hc7.block i (by omega) (fun e' => by have := e'.1; omega)]
      exact ka.block i hi
def RGets (w : World) (col : Nat → Nat) (c b db : Nat) (r : Int × CS) (e : Ending) (w' : World) : Prop :=
  ∃ col', RCacheAt w' col' c b db r.2 ∧ KStep c col col' w w' ∧ ((r.1 = 0 ∧ ∃ a cap, e = .returned (.tuple #[.slice a r.2.lastBytes.length cap, .int .i64 0]) ∧ RdAt w' (Nil0 col') 1 (.slice a r.2.lastBytes.length cap) r.2.lastBytes.length (bcells r.2.lastBytes))
    ∨ (r.1 ≠ 0 ∧ e = .returned (.tuple #[.slice none 0 0, .int .i64 r.1])))
theorem fetch_hit {s : CS} {n : Int} {f : Frm} (h : s.look n = some f) : s.fetch n = (0, { s.used f with hits := wrap64 (s.hits + 1) }) := by unfold CS.fetch; rw [h]
theorem fetch_out {s : CS} {n : Int} (h : s.look n = none) (hr : ¬ (0 ≤ n ∧ n < s.d.count)) : s.fetch n = (30, s) := by unfold CS.fetch; rw [h]; simp only; rw [if_neg hr]
theorem fetch_miss {s : CS} {n : Int} (h : s.look n = none) (hr : 0 ≤ n ∧ n < s.d.count) : s.fetch n = if ({ s with d := s.d.read, misses := wrap64 (s.misses + 1) } : CS).made.1 = 0 then (0, ({ s with d := s.d.read, misses := wrap64 (s.misses + 1) } : CS).made.2.added ⟨n, 0, false, 0, s.d.sector n⟩) else ({ s with d := s.d.read, misses := wrap64 (s.misses + 1) } : CS).made := by unfold CS.fetch; rw [h]; simp only; rw [if_pos hr]
set_option maxHeartbeats 4000000 in
theorem rget_any (h : RCacheIn w col c b s db fv fs) (hc : 1 < c) (hnm : Norm w col) (ok : s.Ok) (hp : s.d.pending.length ≤ 1073690000) (n : Int) :
    Calls Try.prog 55 #[ptr b, .int .i64 n] w fun e w' => RGets w col c b db (s.fetch n) e w' := by
  obtain ⟨i5, hi5, hz50, hz51, hz52⟩ := info_parts info5
  obtain ⟨i0, hi0, hz0, hz1, hz2⟩ := info_parts info121
  have HF := Lib.hid (rfind_any h ok n)
  have H := Lib.hid h
  have HOK := Lib.hid ok
  have HNM := Lib.hid hnm
  have HP := Lib.hid hp
  have HLE := Lib.hid h.len
  have hl4 : fs.length ≤ 4096 := by have := h.len; have := ok.len; have := ok.room1; omega
  rcases place_look ok n with ⟨hl, hpl⟩ | ⟨j, hj, hl, hpl, hsec⟩
  · rw [hpl] at HF
    by_cases hr : 0 ≤ n ∧ n < s.d.count
    · have HFE := Lib.hid (fetch_miss hl hr)
      clear h hnm ok hp hpl hl
      unfold ptr at *
      go_enter Try.func55, Try.ntmps55
      go_wp2_with fail
      refine HF.out.mono ?_
      rintro e w1 ⟨rfl, k1⟩
      have h1 := H.out.below k1
      have H1 := Lib.hid h1
      have q1 := KStep.below (c := c) HNM.out k1
      have Q1 := Lib.hid q1
      obtain ⟨b0, -, -, -, -, -, -⟩ := cells_r h1.block
      have HR := Lib.hid (refread_law h1.disk HOK.out.d q1.norm hc (by have := HP.out; omega) n hr.1 hr.2)
      have HRR := Lib.hid hr
      have hb1 := h1.lt
      clear HF h1 q1 k1 hr
      unfold ptr at *
      go_wp2_with fail
      refine HR.out.mono ?_
      rintro e w2 ⟨⟨a2, cap2, rfl, hr2⟩, hd2, st2⟩
      have h2 := H1.out.disked hc st2 hd2
      have q2 := Q1.out.trans st2.k
      obtain ⟨-, -, -, -, b4, -, -⟩ := cells_r h2.block
      have f4 := free_of_block h2.block 4
      have hb2 := h2.lt
      obtain ⟨h3, k3⟩ := h2.count hc q2.norm 4 (.int .i64 (wrap64 (s.misses + 1))) { s with d := s.d.read, misses := wrap64 (s.misses + 1) } rfl rfl rfl
      have ok3 : ({ s with d := s.d.read, misses := wrap64 (s.misses + 1) } : CS).Ok := ⟨read_Ok HOK.out.d, HOK.out.on, HOK.out.room0, HOK.out.room1, HOK.out.len, HOK.out.nodup, HOK.out.at0, HOK.out.size, HOK.out.order⟩
      have hll : (s.d.sector n).length ≤ 4096 := by have := sector_len HOK.out.d HRR.out.1 HRR.out.2; have := HOK.out.d.size1; omega
      have HR3 := Lib.hid (k3.rd hc hr2)
      have HMK := Lib.hid (made_Ok ok3)
      have H3 := Lib.hid h3
      have Q3 := Lib.hid (q2.trans k3)
      have HRO := Lib.hid (rroom_any h3 hc (q2.trans k3).norm ok3 (by have := HP.out; show s.d.pending.length ≤ _; omega))
      clear HR h2 q2 h3 k3 ok3 hr2 hd2 st2 b0 hb1
      generalize s.d.sector n = l at *
      unfold ptr at *
      generalize ({ s with d := s.d.read, misses := wrap64 (s.misses + 1) } : CS) = s0 at *
      go_wp2_with fail
      refine HRO.out.mono ?_
      rintro e w4 ⟨rfl, col4, ⟨fv4, fs4, h4⟩, k4⟩
      clear HRO b4 f4 hb2
      by_cases hz : s0.made.1 = 0
      · rw [if_pos hz] at HFE
        have hzz : (s0.made.1 != 0) = false := by simp [hz]
        obtain ⟨a4, cap4, rfl⟩ := h4.shape
        have H4 := Lib.hid h4
        have HK4 := Lib.hid (Q3.out.trans k4)
        have HR4 := Lib.hid (k4.rd hc HR3.out)
        have hl44 : fs4.length ≤ 4096 := by have := h4.len; have := HMK.out.ok.len; have := HMK.out.ok.room1; omega
        have HLB : Hid ((s0.made.2.added ⟨n, 0, false, 0, l⟩).lastBytes = l) := by show _ = _; simp [CS.lastBytes, CS.added]
        obtain ⟨-, -, c2, -, -, -, -⟩ := cells_r h4.block
        have f2 := free_of_block h4.block 2
        have hb4 := h4.lt
        have hcb4 := h4.cb
        clear h4 k4 hz
        go_wp2_with fail
        go_region_law (first | (refine step_append_sl rfl (.tmp 75) (.tmp 76) 34 rfl 5 i5 (.int .u8 0) 1 1 Try.underlying34 hi5 hz50 hz51 hz52 rfl (fun _ => False) _ 0 [] rfl (SlAt.nil _ _ _ _ _) (Nil0 col4) _ l.length (bcells l) rfl ?_ (bcells_one _) ?_ ?_ ?_; exact HR4.out.below ((Below.refl _ _).drew.alloc (Nat.le_refl _) _); (unfold maxLen; omega); omega; intro v6 w6 hs6 hc6; rw [Nat.zero_add, List.nil_append] at hs6; obtain ⟨a6, cap6, rfl⟩ := hs6.shape; (have hb6 : Below w4.heap.size w4 w6 := ((Below.refl w4.heap.size w4).drew.alloc (Nat.le_refl _) _).trans (hc6.below (by simp) (fun i _ e => e))); (have hr6 : BytesAt w6 (fun k => w4.heap.size ≤ k) (.slice a6 l.length cap6) l := hs6.rd.mono (fun k _ e => by rcases e with e | e; exact e.elim; simp at e; omega)); (have p36 := (hb6.cell (p := ⟨b, 2, none⟩) hb4).trans c2); (have f36 := (hb6.frozen (p := ⟨b, 2, none⟩) hb4).trans f2); (have b6 : b < w6.heap.size := Nat.lt_of_lt_of_le hb4 hb6.size)) | (refine step_append_sl rfl (.tmp 72) (.tmp 79) 72 rfl 121 i0 (.agg #[.int .i64 0, .int .i64 0, .bool false, .int .u64 0, .slice none 0 0]) 5 56 Try.underlying72 hi0 hz0 hz1 hz2 rfl (fun k => k < w4.heap.size ∧ col4 k = c + 4) _ fs4.length (rcells fs4) rfl ?_ (fun k => k = w6.heap.size) _ 1 (rc ⟨n, 0, false, 0, l⟩ (.slice a6 l.length cap6)) rfl ?_ ?_ ?_ ?_ ?_; exact (H4.out.list.mono (fun k hk e => ⟨hk, e⟩)).below (below_grow hb6 (Nat.le_refl _) ((Below.refl _ _).alloc (Nat.le_refl _) _)); exact rd_new _ _ _ _ _ rfl (by unfold maxLen; omega); simp [rc, Value.oneCell']; (unfold maxLen; omega); omega; intro v7 w7 hs7 hc7; (have k67 := ((Chg.refl (fun k => k < w4.heap.size ∧ col4 k = c + 4) w6).alloc _).trans hc7); (have p37 := k67.cellOf p36 (by rintro ⟨_, e⟩; simp only at e; omega)); (have f37 := k67.freeOf p36 f36 (by rintro ⟨_, e⟩; simp only at e; omega)); obtain ⟨a7, cap7, rfl⟩ := hs7.shape))
        all_goals
          obtain ⟨col', h8, k8⟩ := H4.out.addEnd hc HK4.out.norm hb6 hr6 ((Below.refl _ _).alloc (Nat.le_refl _) _) hc7 hs7 (f := ⟨n, 0, false, 0, l⟩) _ rfl
          have H8 := Lib.hid h8
          have HK8 := Lib.hid (HK4.out.trans k8)
          have HR8 := Lib.hid (k8.rd hc HR4.out)
          clear h8 k8 hs7 hc7 k67 p37 f37 p36 f36 hb6 hr6 hs6 hc6 b6
          generalize w7.setCell ⟨b, 2, none⟩ (.slice a7 (fs4.length + 1) cap7) = w8 at *
        all_goals go_wp2_with fail
        all_goals
          refine bodyPost_ret (v := .tuple #[.slice a2 l.length cap2, .int .i64 0]) (by simp [results, Try.results55, go_sem, *]) rfl ?_
          rw [HFE.out]
          refine ⟨col', H8.out.at, HK8.out, Or.inl ⟨rfl, a2, cap2, ?_, ?_⟩⟩
          · rw [HLB.out]
          · rw [HLB.out]; exact HR8.out
      · rw [if_neg hz] at HFE
        have hzz : (s0.made.1 != 0) = true := by simp [hz]
        have H4 := Lib.hid h4
        have HK4 := Lib.hid (Q3.out.trans k4)
        have HZ := Lib.hid hz
        clear h4 k4 hz
        go_wp2_with fail
        refine bodyPost_ret (v := .tuple #[.slice none 0 0, .int .i64 s0.made.1]) (by simp [results, Try.results55, go_sem, *]) rfl ?_
        rw [HFE.out]
        exact ⟨col4, H4.out.at, HK4.out, Or.inr ⟨HZ.out, rfl⟩⟩
    · have HFE := Lib.hid (fetch_out hl hr)
      clear h hnm ok hp hpl hl
      unfold ptr at *
      go_enter Try.func55, Try.ntmps55
      go_wp2_with fail
      refine HF.out.mono ?_
      rintro e w1 ⟨rfl, k1⟩
      have h1 := H.out.below k1
      have H1 := Lib.hid h1
      obtain ⟨b0, -, -, -, -, -, -⟩ := cells_r h1.block
      obtain ⟨t, hd, ed⟩ := h1.disk
      have HR := Lib.hid (refread_bad w1 col c db t n hd (by rw [← ed] at hr; exact hr))
      have hb1 := h1.lt
      clear HF h1 hd ed hr
      unfold ptr at *
      go_wp2_with fail
      refine HR.out.mono ?_
      rintro e w2 ⟨rfl, rfl⟩
      go_wp2_with fail
      refine bodyPost_ret (v := .tuple #[.slice none 0 0, .int .i64 30]) (by simp [results, Try.results55, go_sem, *]) rfl ?_
      rw [HFE.out]
      exact ⟨col, H1.out.at, KStep.below HNM.out k1, Or.inr ⟨by simp, rfl⟩⟩
  · have HFE := Lib.hid (fetch_hit hl)
    rw [hpl] at HF
    have hjf : j < fs.length := by rw [h.len]; exact hj
    have j0 : ¬ (j : Int) < 0 := by omega
    have j1 : (0 : Int) ≤ (j : Int) := by omega
    have hef : s.frames[j] = fs[j].1 := by simp [← h.fr]
    rw [hef] at HFE
    clear h hnm ok hp hpl hl
    unfold ptr at *
    go_enter Try.func55, Try.ntmps55
    go_wp2_with fail
    refine HF.out.mono ?_
    rintro e w1 ⟨rfl, k1⟩
    have h1 := H.out.below k1
    obtain ⟨-, -, -, b3, -, -, -⟩ := cells_r h1.block
    have f3 := free_of_block h1.block 3
    have hb1 := h1.lt
    obtain ⟨h2, k2⟩ := h1.count hc (HNM.out.grow k1.size) 3 (.int .i64 (wrap64 (s.hits + 1))) { s with hits := wrap64 (s.hits + 1) } rfl rfl rfl
    have H2 := Lib.hid h2
    have K2 := Lib.hid ((KStep.below (c := c) HNM.out k1).trans k2)
    clear HF h1 h2 k2 k1
    go_wp2_with fail
    refine (ruse_any H2.out hc K2.out.norm (hits_Ok HOK.out _ _ _ _) hjf { s.used fs[j].1 with hits := wrap64 (s.hits + 1) } (fun hs => by rw [← hef]; rfl)).mono ?_
    rintro e w3 ⟨rfl, col3, a3, cap3, h3, k3⟩
    have H3 := Lib.hid h3
    have K3 := Lib.hid (K2.out.trans k3)
    obtain ⟨n1, hn1⟩ : ∃ n1, fs.length = n1 + 1 := ⟨fs.length - 1, by omega⟩
    have hle : (fs.eraseIdx j).length = n1 := by rw [List.length_eraseIdx, if_pos hjf]; omega
    have hl3 : (fs.eraseIdx j ++ [fs[j]]).length = n1 + 1 := by rw [List.length_append, hle]; rfl
    have hlast : (fs.eraseIdx j ++ [fs[j]])[n1]'(by omega) = fs[j] := by
      rw [List.getElem_append_right (by omega)]; simp [hle]
    have hrd := h3.list.rd
    rw [hl3, ← hn1] at hrd
    obtain ⟨g, off, e3, hg, -, -, -, -, q4⟩ := rframe_cells (n := fs.length) (by rw [hl3, hn1]) hrd (show n1 < (fs.eraseIdx j ++ [fs[j]]).length by omega)
    subst e3
    rw [hlast] at q4
    have hby := h3.bytes fs[j] (by simp)
    obtain ⟨av, cv, ev⟩ := hby.shape
    have HBY := Lib.hid hby
    have hb16 : fs[j].1.bytes.length ≤ 4096 := by
      have h5 := HOK.out.size _ (List.getElem_mem hj)
      have := HOK.out.d.size1
      rw [hef] at h5; omega
    have hlb : ({ s.used fs[j].1 with hits := wrap64 (s.hits + 1) } : CS).lastBytes = fs[j].1.bytes := by simp [CS.lastBytes, CS.used]
    have HLB := Lib.hid hlb
    obtain ⟨-, -, c2, -, -, -, -⟩ := cells_r h3.block
    have hbl3 := h3.lt
    have KC : Hid (∀ W, Bl w3 W → W.cell? ⟨b, 2, none⟩ = some (.slice (some ⟨g, off, none⟩) fs.length cap3) ∧ W.cell? ⟨g, off + n1 * 5 + 4, none⟩ = some fs[j].2) := fun W k => ⟨(k.cell (p := ⟨b, 2, none⟩) hbl3).trans c2, (k.cell (p := ⟨g, off + n1 * 5 + 4, none⟩) hg).trans q4⟩
    have m0 : (0 : Int) ≤ (n1 : Int) := by omega
    have m1 : (n1 : Int) < (fs.length : Int) := by omega
    have m3 : (n1 : Int) ≤ 4096 := by omega
    have hwr : IntKind.i64.wrap ((fs.length : Int) - 1) = (n1 : Int) := by rw [show (fs.length : Int) - 1 = (n1 : Int) by omega]; exact IntWalk.i64_in _ (by omega)
    clear h3 k3 hle hn1 hl3 hlast hrd hby hlb b3 f3 hef hsec
    generalize fs[j] = fj at *
    obtain ⟨⟨fsec, fp, fd, fo, fb⟩, fw⟩ := fj
    simp only at q4 ev HBY hb16 HLB
    subst ev
    go_wp2_with fail
    go_region_held3 (fun W => W.cell? ⟨b, 2, none⟩ = some (.slice (some ⟨g, off, none⟩) fs.length cap3) ∧ W.cell? ⟨g, off + n1 * 5 + 4, none⟩ = some (.slice av fb.length cv)) (first | exact KC.out _ (by ((repeat (first | with_reducible exact Bl.refl _ | with_reducible exact k6 | with_reducible refine Bl.alloc ?_ _ | with_reducible refine Bl.drew ?_)); done))) ((first | (refine step_append_sl rfl (.tmp 27) (.tmp 40) 34 rfl 5 i5 (.int .u8 0) 1 1 Try.underlying34 hi5 hz50 hz51 hz52 rfl (fun _ => False) _ 0 [] rfl (SlAt.nil _ _ _ _ _) (fun k => col3 k = 1) _ fb.length (bcells fb) rfl ?_ (bcells_one _) ?_ ?_ ?_; exact RdAt.below HBY.out (by ((repeat (first | with_reducible exact Bl.refl _ | with_reducible exact k6 | with_reducible refine Bl.alloc ?_ _ | with_reducible refine Bl.drew ?_)); done)); (unfold maxLen; omega); omega; intro v6 w6 hs6 hc6; rw [Nat.zero_add, List.nil_append] at hs6; obtain ⟨a6, cap6, rfl⟩ := hs6.shape; (have k6 : Bl w3 w6 := Bl.trans (by ((repeat (first | with_reducible exact Bl.refl _ | with_reducible exact k6 | with_reducible refine Bl.alloc ?_ _ | with_reducible refine Bl.drew ?_)); done)) (hc6.below (Nat.le_refl _) (fun _ _ e => e))); (have r6 : RdAt w6 (fun k => w3.heap.size ≤ k) 1 (.slice a6 fb.length cap6) fb.length (bcells fb) := hs6.rd.mono (fun k hk e => by rcases e with e | e; exact e.elim; rw [e]; exact bl_size (by ((repeat (first | with_reducible exact Bl.refl _ | with_reducible exact k6 | with_reducible refine Bl.alloc ?_ _ | with_reducible refine Bl.drew ?_)); done)))))))
    all_goals
      go_wp2_with fail
      refine bodyPost_ret (v := .tuple #[.slice a6 fb.length cap6, .int .i64 0]) (by simp [results, Try.results55, go_sem, *]) rfl ?_
      rw [HFE.out]
      refine ⟨col3, (H3.out.below k6).at, K3.out.trans (KStep.below K3.out.norm k6), Or.inl ⟨rfl, a6, cap6, ?_, ?_⟩⟩
      · rw [HLB.out]
      · rw [HLB.out]; exact r6.mono (fun k _ e => K3.out.norm k e)
end
end Go.Proofs.Ytjjgihaikcnjgaa
/-
  The document's cache: Pin, Unpin, Sync.
-/
namespace Go.Proofs.Ytjjgihaikcnjgaa
open Go.RowKit Go.Maps
set_option linter.unusedSimpArgs false
set_option linter.unusedVariables false
set_option maxRecDepth 100000

theorem fetch_some {s : CS} {n : Int} (h : (s.fetch n).1 = 0) : 0 < (s.fetch n).2.frames.length := by
  unfold CS.fetch at *
  cases hl : s.look n with
  | some f => simp [CS.used]
  | none =>
    rw [hl] at h
    simp only at h ⊢
    split
    · rename_i hr
      rw [if_pos hr] at h
      split
      · simp [CS.added]
      · rename_i hz
        rw [if_neg hz] at h
        exact absurd h hz
    · rename_i hr
      rw [if_neg hr] at h
      cases h
theorem onLast_set {s : CS} {m : Nat} (h : s.frames.length = m + 1) (g : Frm → Frm) : (s.onLast g) = { s with frames := s.frames.set m (g (s.frames[m]'(by omega))) } := by
  unfold CS.onLast
  congr 1
  rcases List.eq_nil_or_concat s.frames with e | ⟨l, f, e⟩
  · rw [e] at h; simp at h
  · have hl : l.length = m := by rw [e] at h; simpa using h
    subst hl
    simp [e]
theorem last_at {s : CS} {m : Nat} (h : s.frames.length = m + 1) : s.lastBytes = (s.frames[m]'(by omega)).bytes := by
  unfold CS.lastBytes
  rcases List.eq_nil_or_concat s.frames with e | ⟨l, f, e⟩
  · rw [e] at h; simp at h
  · have hl : l.length = m := by rw [e] at h; simpa using h
    subst hl
    simp [e]
section
variable {w : World} {col : Nat → Nat} {c b db : Nat} {s : CS} {fv : Value} {fs : List (Frm × Value)}
set_option maxHeartbeats 4000000 in
theorem rpin_any (h : RCacheIn w col c b s db fv fs) (hc : 1 < c) (hnm : Norm w col) (ok : s.Ok) (hp : s.d.pending.length ≤ 1073690000) (n : Int) :
    Calls Try.prog 56 #[ptr b, .int .i64 n] w fun e w' => RGets w col c b db (s.pin n) e w' := by
  have HG := Lib.hid (rget_any h hc hnm ok hp n)
  have HFO := Lib.hid (fetch_keeps ok n).ok
  clear h hnm ok hp
  unfold ptr at *
  go_enter Try.func56, Try.ntmps56
  go_wp2_with fail
  refine HG.out.mono ?_
  rintro e w1 ⟨col1, ⟨fv1, fs1, h1⟩, k1, hor⟩
  clear HG
  rcases hor with ⟨hz, a1, cap1, rfl, hr1⟩ | ⟨hz, rfl⟩
  · have hpn : s.pin n = (0, (s.fetch n).2.onLast Frm.pin) := by unfold CS.pin; rw [if_pos hz]
    obtain ⟨m, hm⟩ : ∃ m, (s.fetch n).2.frames.length = m + 1 := ⟨(s.fetch n).2.frames.length - 1, by have := fetch_some hz; omega⟩
    have hon := onLast_set hm Frm.pin
    have hla := last_at hm
    have hlb : ((s.fetch n).2.onLast Frm.pin).lastBytes = (s.fetch n).2.lastBytes := by
      have h2 : ((s.fetch n).2.onLast Frm.pin).frames.length = m + 1 := by rw [hon]; simpa using hm
      have h3 := last_at h2
      rw [h3, hla]
      simp only [hon]
      simp [Frm.pin]
    rw [hon] at hpn hlb
    generalize (s.fetch n).2 = t at *
    have hmf : m < fs1.length := by rw [h1.len]; omega
    have hl4 : fs1.length ≤ 4096 := by have := h1.len; have := HFO.out.len; have := HFO.out.room1; omega
    have hef : t.frames[m] = fs1[m].1 := by simp [← h1.fr]
    obtain ⟨a2, cap2, rfl⟩ := h1.shape
    obtain ⟨g, off, rfl, hg, q0, q1, q2, q3, q4⟩ := rframe_cells rfl h1.list.rd hmf
    obtain ⟨-, -, c2, -, -, -, -⟩ := cells_r h1.block
    have h1d := h1.below (Bl.refl w1).drew
    have k1d := k1.drew
    obtain ⟨⟨h3, k3⟩, fr1, hgl, hgb⟩ := h1d.turn hc k1d.norm hmf 1 (by omega) (.int .i64 (wrap64 (fs1[m].1.pins + 1))) (fs1[m].1.pin, fs1[m].2) rfl (show BytesAt w1.drew (fun i => col1 i = 1) fs1[m].2 fs1[m].1.bytes from h1d.bytes _ (List.getElem_mem hmf)) { t with frames := t.frames.set m t.frames[m].pin } (by rw [hef])
    have fr1' : w1.frozen? ⟨g, off + m * 5 + 1, none⟩ = false := fr1
    have hb1 := h1.lt
    have KB : Hid (∀ W, Chg (fun i => i = g) w1 W → W.cell? ⟨b, 2, none⟩ = some (.slice (some ⟨g, off, none⟩) fs1.length cap2)) := fun W k => k.cellOf c2 (fun e => hgb e.symm)
    have H3 := Lib.hid h3
    have K3 := Lib.hid (k1d.trans k3)
    have HR3 := Lib.hid (k3.rd hc (hr1.below (Bl.refl w1).drew))
    have HPN := Lib.hid hpn
    have HLB := Lib.hid hlb
    have m0 : (0 : Int) ≤ (m : Int) := by omega
    have m1 : (m : Int) < (fs1.length : Int) := by omega
    have m3 : (m : Int) ≤ 4096 := by omega
    have hwr : IntKind.i64.wrap ((fs1.length : Int) - 1) = (m : Int) := by
      have := h1.len
      rw [show (fs1.length : Int) - 1 = (m : Int) by omega]; exact IntWalk.i64_in _ (by omega)
    have hgb' : ¬ b = g := fun e => hgb e.symm
    clear h1 h1d k1 k1d h3 k3 hr1 hpn hlb hon hla hz hef fr1 q0 q2 q3 q4
    generalize fs1[m].1.pins = pp at *
    generalize t.lastBytes = lb at *
    go_wp2_with fail
    go_region
    all_goals
      go_wp2_with fail
      refine bodyPost_ret (v := .tuple #[.slice a1 lb.length cap1, .int .i64 0]) (by simp [results, Try.results56, go_sem, *]) rfl ?_
      rw [HPN.out]
      refine ⟨col1, H3.out.at, K3.out, Or.inl ⟨rfl, a1, cap1, ?_, ?_⟩⟩
      · show _ = Ending.returned (.tuple #[.slice a1 (CS.lastBytes _).length cap1, .int .i64 0]); rw [HLB.out]
      · show RdAt _ _ _ (.slice a1 (CS.lastBytes _).length cap1) (CS.lastBytes _).length (bcells (CS.lastBytes _)); rw [HLB.out]; exact HR3.out
  · have hpn : s.pin n = s.fetch n := by unfold CS.pin; rw [if_neg hz]
    have hz2 : ((s.fetch n).1 == 0) = false := by simpa using hz
    have HPN := Lib.hid hpn
    have HZ := Lib.hid hz
    have H1 := Lib.hid h1
    have K1 := Lib.hid k1
    clear hpn hz h1 k1
    go_wp2_with fail
    refine bodyPost_ret (v := .tuple #[.slice none 0 0, .int .i64 (s.fetch n).1]) (by simp [results, Try.results56, go_sem, *]) rfl ?_
    rw [HPN.out]
    exact ⟨col1, H1.out.at, K1.out, Or.inr ⟨HZ.out, rfl⟩⟩
end
end Go.Proofs.Ytjjgihaikcnjgaa
/-
  The document's cache: Unpin, Sync.
-/
namespace Go.Proofs.Ytjjgihaikcnjgaa
open Go.RowKit Go.Maps
set_option linter.unusedSimpArgs false
set_option linter.unusedVariables false
set_option maxRecDepth 100000

section
variable {w : World} {col : Nat → Nat} {c b db : Nat} {s : CS} {fv : Value} {fs : List (Frm × Value)}
set_option maxHeartbeats 4000000 in
theorem runpin_any (h : RCacheIn w col c b s db fv fs) (hc : 1 < c) (hnm : Norm w col) (ok : s.Ok) (n : Int) :
    Calls Try.prog 57 #[ptr b, .int .i64 n] w fun e w' => RTells w col c b db (s.unpin n) e w' := by
  have HF := Lib.hid (rfind_any h ok n)
  have H := Lib.hid h
  have HNM := Lib.hid hnm
  have hl4 : fs.length ≤ 4096 := by have := h.len; have := ok.len; have := ok.room1; omega
  unfold RTells
  rcases place_look ok n with ⟨hl, hpl⟩ | ⟨j, hj, hl, hpl, hsec⟩
  · rw [hpl] at HF
    have hu : s.unpin n = (81, s) := by unfold CS.unpin; rw [hl]
    have HU := Lib.hid hu
    clear h hnm ok hpl hl hu
    unfold ptr at *
    go_enter Try.func57, Try.ntmps57
    go_wp2_with fail
    refine HF.out.mono ?_
    rintro e w1 ⟨rfl, k1⟩
    go_wp2_with fail
    go_ret
    rw [HU.out]
    exact ⟨rfl, col, (H.out.below k1).at, KStep.below HNM.out k1⟩
  · rw [hpl] at HF
    have hjf : j < fs.length := by rw [h.len]; exact hj
    have hef : s.frames[j] = fs[j].1 := by simp [← h.fr]
    have hmap := map_at ok hj Frm.unpin
    rw [hsec] at hmap
    have j0 : ¬ (j : Int) < 0 := by omega
    have j1 : (0 : Int) ≤ (j : Int) := by omega
    have j2 : (j : Int) < (fs.length : Int) := by omega
    have jd : decide ((j : Int) < 0) = false := by simp
    have hu1 : fs[j].1.pins = 0 → s.unpin n = (81, s) := fun e => by unfold CS.unpin; rw [hl]; simp only; rw [hef, if_pos e]
    have hu2 : fs[j].1.pins ≠ 0 → s.unpin n = (0, { s with frames := s.frames.set j fs[j].1.unpin }) := fun e => by
      unfold CS.unpin; rw [hl]; simp only; rw [hef, if_neg e]
      rw [hmap, hef]
    have HU1 := Lib.hid hu1
    have HU2 := Lib.hid hu2
    clear h hnm ok hpl hl hu1 hu2 hmap hsec hef
    unfold ptr at *
    go_enter Try.func57, Try.ntmps57
    go_wp2_with fail
    refine HF.out.mono ?_
    rintro e w1 ⟨rfl, k1⟩
    have h1 := H.out.below k1
    have kq := KStep.below (c := c) HNM.out k1
    obtain ⟨a2, cap2, rfl⟩ := h1.shape
    obtain ⟨g, off, rfl, hg, q0, q1, q2, q3, q4⟩ := rframe_cells rfl h1.list.rd hjf
    obtain ⟨-, -, c2, -, -, -, -⟩ := cells_r h1.block
    have hb1 := h1.lt
    obtain ⟨⟨h3, k3⟩, fr1, hgl, hgb⟩ := h1.turn hc kq.norm hjf 1 (by omega) (.int .i64 (wrap64 (fs[j].1.pins - 1))) (fs[j].1.unpin, fs[j].2) rfl (show BytesAt w1 (fun i => col i = 1) fs[j].2 fs[j].1.bytes from h1.bytes _ (List.getElem_mem hjf)) { s with frames := s.frames.set j fs[j].1.unpin } rfl
    have H1 := Lib.hid h1
    have KQ := Lib.hid kq
    have H3 := Lib.hid h3
    have K3 := Lib.hid (kq.trans k3)
    clear h1 kq h3 k3 k1 q0 q2 q3 q4 HF
    have hside : (fs[j].1.pins == 0) = true ∨ (fs[j].1.pins == 0) = false := by cases (fs[j].1.pins == 0) <;> simp
    rcases hside with hz | hz
    · have HU := Lib.hid (HU1.out (by simpa using hz))
      clear HU1 HU2
      generalize fs[j].1.pins = pp at *
      go_wp2_with fail
      go_ret
      rw [HU.out]
      exact ⟨rfl, col, H1.out.at, KQ.out⟩
    · have HU := Lib.hid (HU2.out (by simpa using hz))
      clear HU1 HU2
      generalize fs[j].1.pins = pp at *
      go_wp2_with fail
      go_ret
      rw [HU.out]
      exact ⟨rfl, col, H3.out.at, K3.out⟩
set_option maxHeartbeats 4000000 in
theorem rsync_any (h : RCacheIn w col c b s db fv fs) (hc : 1 < c) (hnm : Norm w col) (ok : s.Ok) (hp : s.d.pending.length ≤ 1073690000) :
    Calls Try.prog 60 #[ptr b] w fun e w' => e = .returned (.int .i64 0) ∧ RNow w col c b db s.sync w' := by
  have HU := Lib.hid (rupto_any h hc hnm ok (by omega) 18446744073709551615)
  obtain ⟨oku, uc, uz, up⟩ := upTo_Ok ok 18446744073709551615
  have HOU := Lib.hid oku
  have hup : (s.upTo 18446744073709551615).d.pending.length ≤ 1073741824 := by omega
  have HUP := Lib.hid hup
  clear h hnm ok hp oku uc uz up hup
  unfold ptr at *
  go_enter Try.func60, Try.ntmps60
  go_wp2_with fail
  refine HU.out.mono ?_
  rintro e w1 ⟨rfl, col1, ⟨fv1, fs1, h1⟩, k1⟩
  have HR := Lib.hid (refflush_law h1.disk HOU.out.d k1.norm hc HUP.out)
  obtain ⟨b0, -, -, -, -, -, -⟩ := cells_r h1.block
  have H1 := Lib.hid h1
  have K1 := Lib.hid k1
  clear h1 k1 HU
  unfold ptr at *
  go_wp2_with fail
  refine HR.out.mono ?_
  rintro e w2 ⟨rfl, col2, hd2, st2⟩
  have H2 := Lib.hid (H1.out.disked hc st2 hd2)
  have K2 := Lib.hid (K1.out.trans st2.k)
  clear hd2 st2 HR
  go_wp2_with fail
  go_ret
  exact ⟨rfl, col2, H2.out.at, K2.out⟩
end
end Go.Proofs.Ytjjgihaikcnjgaa
/-
  The document's cache: what Put turns.
-/
namespace Go.Proofs.Ytjjgihaikcnjgaa
open Go.RowKit Go.Maps
set_option linter.unusedSimpArgs false
set_option linter.unusedVariables false
set_option maxRecDepth 100000

section
variable {w : World} {col : Nat → Nat} {c b db : Nat} {s : CS} {fv : Value} {fs : List (Frm × Value)}
/-- new blocks are bytes -/
theorem RCacheIn.tint (h : RCacheIn w col c b s db fv fs) (hn : Norm w col) {w6 : World} (k6 : Below w.heap.size w w6) : RCacheIn w6 (col1 col w.heap.size w6.heap.size) c b s db fv fs ∧ KStep c col (col1 col w.heap.size w6.heap.size) w w6 := by
  have hext := col1_ext col w.heap.size w6.heap.size
  have hs := k6.size
  exact ⟨h.keep (fun i hi _ => k6.block i hi) hext hs, hext, Chg.of_below k6, fun i hi => by unfold col1; rw [if_neg (by omega), if_neg (by omega)]⟩
structure Spot (w : World) (b g p : Nat) (v : Value) : Prop where
  cell : ∃ u, w.cell? ⟨g, p, none⟩ = some u
  free : w.frozen? ⟨g, p, none⟩ = false
  ne : g ≠ b
  lt : g < w.heap.size
theorem RCacheIn.spot {g off cap : Nat} (h : RCacheIn w col c b s db (.slice (some ⟨g, off, none⟩) fs.length cap) fs) {j : Nat} (hj : j < fs.length) (k : Nat) (hk : k < 5) (v : Value) : Spot w b g (off + j * 5 + k) v := by
  have hi : j * 5 + k < (rcells fs).length := by rw [rcells_len]; omega
  obtain ⟨h1, h2, h3, h4⟩ := h.list.set hi v
  rw [← Nat.add_assoc] at h2
  have hcb := h.cb
  refine ⟨?_, h2, fun e => by subst e; omega, h4⟩
  obtain ⟨g', off', e, _, _, hc⟩ := h.list.rd.get (by omega)
  simp only [Option.some.injEq, Addr.mk.injEq, and_true] at e
  obtain ⟨rfl, rfl⟩ := e
  have hg := List.getElem?_eq_getElem hi
  exact ⟨_, by rw [Nat.add_assoc]; exact hc _ _ hg⟩
theorem RCacheIn.byteset {g off cap : Nat} (h : RCacheIn w col c b s db (.slice (some ⟨g, off, none⟩) fs.length cap) fs) (hc : 1 < c) (hn : Norm w col) {j : Nat} (hj : j < fs.length) {w6 : World} (k6 : Below w.heap.size w w6) {v6 : Value} {l : List Int} (r6 : BytesAt w6 (fun k => w.heap.size ≤ k) v6 l) :
    ∃ col', RCacheIn (w6.setCell ⟨g, off + j * 5 + 4, none⟩ v6) col' c b { s with frames := s.frames.set j { fs[j].1 with bytes := l } } db (.slice (some ⟨g, off, none⟩) (fs.set j ({ fs[j].1 with bytes := l }, v6)).length cap) (fs.set j ({ fs[j].1 with bytes := l }, v6)) ∧ KStep c col col' w (w6.setCell ⟨g, off + j * 5 + 4, none⟩ v6) := by
  obtain ⟨h1, k1⟩ := h.tint hn k6
  obtain ⟨⟨h2, k2⟩, -⟩ := h1.turn hc k1.norm hj 4 (by omega) v6 ({ fs[j].1 with bytes := l }, v6) rfl (r6.mono (fun k hk e => by unfold col1; rw [if_neg (by omega), if_pos hk])) _ rfl
  exact ⟨_, h2, k1.trans k2⟩
theorem RCacheIn.dirtyset {g off cap : Nat} (h : RCacheIn w col c b s db (.slice (some ⟨g, off, none⟩) fs.length cap) fs) (hc : 1 < c) (hn : Norm w col) {j : Nat} (hj : j < fs.length) (o : Int) :
    RCacheIn ((w.setCell ⟨g, off + j * 5 + 2, none⟩ (.bool true)).setCell ⟨g, off + j * 5 + 3, none⟩ (.int .u64 o)) col c b { s with frames := s.frames.set j { fs[j].1 with dirty := true, order := o } } db (.slice (some ⟨g, off, none⟩) fs.length cap) (fs.set j ({ fs[j].1 with dirty := true, order := o }, fs[j].2)) ∧ KStep c col col w ((w.setCell ⟨g, off + j * 5 + 2, none⟩ (.bool true)).setCell ⟨g, off + j * 5 + 3, none⟩ (.int .u64 o)) := by
  obtain ⟨⟨h4, k4⟩, -⟩ := h.turn hc hn hj 2 (by omega) (.bool true) ({ fs[j].1 with dirty := true }, fs[j].2) rfl (show BytesAt w (fun i => col i = 1) fs[j].2 fs[j].1.bytes from h.bytes _ (List.getElem_mem hj)) _ rfl
  have hj2 : j < (fs.set j ({ fs[j].1 with dirty := true }, fs[j].2)).length := by simpa using hj
  have e1 : (fs.set j ({ fs[j].1 with dirty := true }, fs[j].2))[j] = ({ fs[j].1 with dirty := true }, fs[j].2) := by simp
  obtain ⟨⟨h5, k5⟩, -⟩ := h4.turn hc k4.norm hj2 3 (by omega) (.int .u64 o) ({ fs[j].1 with dirty := true, order := o }, fs[j].2) (by rw [e1]; rfl) (by have := h4.bytes _ (List.getElem_mem hj2); rw [e1] at this; exact this) { s with frames := s.frames.set j { fs[j].1 with dirty := true, order := o } } (by simp)
  have e2 : (fs.set j ({ fs[j].1 with dirty := true }, fs[j].2)).set j ({ fs[j].1 with dirty := true, order := o }, fs[j].2) = fs.set j ({ fs[j].1 with dirty := true, order := o }, fs[j].2) := by simp
  rw [e2, List.length_set] at h5
  exact ⟨h5, k4.trans k5⟩
theorem set_Ok {s : CS} (ok : s.Ok) {j : Nat} (hj : j < s.frames.length) {g : Frm} (hs : g.sector = s.frames[j].sector) (hz : (g.bytes.length : Int) = s.d.size) (ho : 0 ≤ g.order ∧ g.order ≤ 18446744073709551615) : ({ s with frames := s.frames.set j g } : CS).Ok := by
  have hmap : (s.frames.set j g).map Frm.sector = s.frames.map Frm.sector := by
    rw [List.map_set, hs]
    apply List.ext_getElem (by simp)
    intro i h1 h2
    simp only [List.getElem_set, List.getElem_map]
    split
    · rename_i e; subst e; rfl
    · rfl
  refine ⟨ok.d, ok.on, ok.room0, ok.room1, by simpa using ok.len, by rw [hmap]; exact ok.nodup, fun x hx => ?_, fun x hx => ?_, fun x hx => ?_⟩
  · rcases List.mem_or_eq_of_mem_set hx with hx | rfl
    · exact ok.at0 x hx
    · rw [hs]; exact ok.at0 _ (List.getElem_mem hj)
  · rcases List.mem_or_eq_of_mem_set hx with hx | rfl
    · exact ok.size x hx
    · exact hz
  · rcases List.mem_or_eq_of_mem_set hx with hx | rfl
    · exact ok.order x hx
    · exact ho
theorem set_used {s : CS} {j : Nat} (hj : j < s.frames.length) {g : Frm} (ok : ({ s with frames := s.frames.set j g } : CS).Ok) : ({ s with frames := s.frames.set j g } : CS).used g = { s with frames := s.frames.eraseIdx j ++ [g] } := by
  have hj2 : j < (s.frames.set j g).length := by simpa using hj
  have h := rest_erase ok (j := j) hj2
  have e : (s.frames.set j g)[j] = g := by simp
  simp only [e] at h
  unfold CS.used
  rw [h]
  have e2 : (s.frames.set j g).eraseIdx j = s.frames.eraseIdx j := by
    apply List.ext_getElem?
    intro i
    simp only [List.getElem?_eraseIdx, List.getElem?_set]
    split
    · rw [if_neg (by omega)]
    · rw [if_neg (by omega)]
  rw [e2]
end
end Go.Proofs.Ytjjgihaikcnjgaa
/-
  The document's cache: Put.
-/
namespace Go.Proofs.Ytjjgihaikcnjgaa
open Go.RowKit Go.Maps
set_option linter.unusedSimpArgs false
set_option linter.unusedVariables false
set_option maxRecDepth 100000

section
variable {w : World} {col : Nat → Nat} {c b db : Nat} {s : CS} {fv : Value} {fs : List (Frm × Value)}
theorem put_bad {s : CS} {n : Int} {l : List Int} {o : Int} (h : ¬ (0 ≤ n ∧ n < s.d.count ∧ (l.length : Int) = s.d.size)) : s.put n l o = (30, s) := by unfold CS.put; rw [if_neg h]
set_option maxHeartbeats 4000000 in
theorem rput_bad (h : RCacheIn w col c b s db fv fs) (hnm : Norm w col) (n : Int) (v : Value) (l : List Int) (o : Int) (hv : RdAt w (Nil0 col) 1 v l.length (bcells l)) (hbad : ¬ (0 ≤ n ∧ n < s.d.count ∧ (l.length : Int) = s.d.size)) :
    Calls Try.prog 58 #[ptr b, .int .i64 n, v, .int .u64 o] w fun e w' => RTells w col c b db (s.put n l o) e w' := by
  have H := Lib.hid h
  have HNM := Lib.hid hnm
  have HP := Lib.hid (put_bad (s := s) (o := o) hbad)
  obtain ⟨b0, -, -, -, -, -, -⟩ := cells_r h.block
  obtain ⟨t, ⟨pa, pcap, qa, qn, qcap, qs, hd⟩, ed⟩ := h.disk
  have d0 := hd.size
  have d1 := hd.count
  have e0 : t.size = s.d.size := by rw [← ed]; rfl
  have e1 : t.count = s.d.count := by rw [← ed]; rfl
  rw [e0] at d0
  rw [e1] at d1
  obtain ⟨a, cap, rfl, _⟩ := hv.shape
  have hside : n < 0 ∨ (¬ n < 0 ∧ s.d.count ≤ n) ∨ (¬ n < 0 ∧ ¬ s.d.count ≤ n ∧ ((l.length : Int) != s.d.size) = true) := by
    by_cases h1 : n < 0
    · exact Or.inl h1
    · by_cases h2 : s.d.count ≤ n
      · exact Or.inr (Or.inl ⟨h1, h2⟩)
      · refine Or.inr (Or.inr ⟨h1, h2, ?_⟩)
        simp; intro e; exact hbad ⟨by omega, by omega, e⟩
  clear h hnm hv hbad hd ed e0 e1
  generalize s.d.count = cnt at *
  generalize s.d.size = sz at *
  unfold RTells
  unfold ptr at *
  rcases hside with h1 | ⟨h1, h2⟩ | ⟨h1, h2, h3⟩
  all_goals
    go_enter Try.func58, Try.ntmps58
    go_wp2_with fail
    go_ret
    rw [HP.out]
    exact ⟨rfl, col, H.out.at, KStep.refl c HNM.out⟩
theorem put_old {s : CS} {n : Int} {l : List Int} {o : Int} {f : Frm} (h : 0 ≤ n ∧ n < s.d.count ∧ (l.length : Int) = s.d.size) (hl : s.look n = some f) : s.put n l o = if f.dirty = true ∧ o < f.order then (80, s) else (0, { s with frames := s.rest n ++ [⟨n, f.pins, true, o, l⟩] }) := by unfold CS.put; rw [if_pos h, hl]
theorem put_new {s : CS} {n : Int} {l : List Int} {o : Int} (h : 0 ≤ n ∧ n < s.d.count ∧ (l.length : Int) = s.d.size) (hl : s.look n = none) : s.put n l o = if s.made.1 = 0 then (0, s.made.2.added ⟨n, 0, true, o, l⟩) else s.made := by unfold CS.put; rw [if_pos h, hl]
set_option maxHeartbeats 8000000 in
theorem rput_ok (h : RCacheIn w col c b s db fv fs) (hc : 1 < c) (hnm : Norm w col) (ok : s.Ok) (hp : s.d.pending.length ≤ 1073690000) (n : Int) (v : Value) (l : List Int) (o : Int) (ho : 0 ≤ o ∧ o ≤ 18446744073709551615) (hv : RdAt w (Nil0 col) 1 v l.length (bcells l)) (hfit : 0 ≤ n ∧ n < s.d.count ∧ (l.length : Int) = s.d.size) :
    Calls Try.prog 58 #[ptr b, .int .i64 n, v, .int .u64 o] w fun e w' => RTells w col c b db (s.put n l o) e w' := by
  obtain ⟨i5, hi5, hz50, hz51, hz52⟩ := info_parts info5
  obtain ⟨i0, hi0, hz0, hz1, hz2⟩ := info_parts info121
  have HF := Lib.hid (rfind_any h ok n)
  have H := Lib.hid h
  have HOK := Lib.hid ok
  have HNM := Lib.hid hnm
  have HP := Lib.hid hp
  have HO := Lib.hid ho
  have HV0 := Lib.hid hv
  have HFIT := Lib.hid hfit
  have hl4 : fs.length ≤ 4096 := by have := h.len; have := ok.len; have := ok.room1; omega
  have hll : l.length ≤ 4096 := by have := ok.d.size1; omega
  obtain ⟨b0, -, -, -, -, -, -⟩ := cells_r h.block
  obtain ⟨t, ⟨pa, pcap, qa, qn, qcap, qs, hd⟩, ed⟩ := h.disk
  have d0 := hd.size
  have d1 := hd.count
  have e0 : t.size = s.d.size := by rw [← ed]; rfl
  have e1 : t.count = s.d.count := by rw [← ed]; rfl
  rw [e0] at d0
  rw [e1] at d1
  obtain ⟨a, cap, rfl, _⟩ := hv.shape
  have h1 : ¬ n < 0 := by omega
  have h2 : ¬ s.d.count ≤ n := by omega
  have h3 : ((l.length : Int) != s.d.size) = false := by simp [hfit.2.2]
  have hdb := hd.lt
  have hbl := h.lt
  unfold RTells
  rcases place_look ok n with ⟨hl, hpl⟩ | ⟨j, hj, hl, hpl, hsec⟩
  · rw [hpl] at HF
    have HPU := Lib.hid (put_new (o := o) hfit hl)
    have HNO := Lib.hid (look_none hl)
    clear h hnm ok hp ho hv hfit hd ed e0 e1 hpl hl
    generalize s.d.count = cnt at h2 d1
    generalize s.d.size = sz at h3 d0
    unfold ptr at *
    go_enter Try.func58, Try.ntmps58
    go_wp2_with fail
    refine HF.out.mono ?_
    rintro e w1 ⟨rfl, k1⟩
    have h1' := H.out.below k1
    have kq := KStep.below (c := c) HNM.out k1
    have HV1 := Lib.hid (HV0.out.below k1)
    have HK1 := Lib.hid kq
    have HRO := Lib.hid (rroom_any h1' hc kq.norm HOK.out (by have := HP.out; omega))
    have HMK := Lib.hid (made_Ok HOK.out)
    clear h1' kq k1 HF d0 d1 b0
    unfold ptr at *
    go_wp2_with fail
    refine HRO.out.mono ?_
    rintro e w4 ⟨rfl, col4, ⟨fv4, fs4, h4⟩, k4⟩
    clear HRO
    by_cases hz : s.made.1 = 0
    · have hzz : (s.made.1 != 0) = false := by simp [hz]
      have HM := HPU.out
      rw [if_pos hz] at HM
      have HEND0 := Lib.hid HM
      have HMO := Lib.hid (HMK.out.room hz)
      obtain ⟨a4, cap4, rfl⟩ := h4.shape
      have H4 := Lib.hid h4
      have HK4 := Lib.hid (HK1.out.trans k4)
      have HV4 := Lib.hid (k4.rd hc HV1.out)
      have hl44 : fs4.length ≤ 4096 := by have := h4.len; have := HMK.out.ok.len; have := HMK.out.ok.room1; omega
      obtain ⟨-, -, c2, -, -, -, -⟩ := cells_r h4.block
      have f2 := free_of_block h4.block 2
      have hb4 := h4.lt
      have hcb4 := h4.cb
      clear h4 k4 hz HM HPU
      have okS : Hid (∀ u : Frm, u.sector = n → (u.bytes.length : Int) = s.d.size → 0 ≤ u.order → u.order ≤ 18446744073709551615 → (s.made.2.added u).Ok) := fun u e0 e1 e2 e3 => added_Ok HMK.out.ok HMO.out (fun f hf => by
        obtain ⟨g, hg, e⟩ := HMK.out.sub f hf
        rw [e, e0]; exact HNO.out g hg) (by rw [HMK.out.count, e0]; exact ⟨HFIT.out.1, HFIT.out.2.1⟩) (by rw [HMK.out.size]; exact e1) ⟨e2, e3⟩
      go_wp2_with (at_builtin; go_must (refine wpList_append_sl rfl _ _ 72 rfl 121 i0 (.agg #[.int .i64 0, .int .i64 0, .bool false, .int .u64 0, .slice none 0 0]) 5 56 Try.underlying72 hi0 hz0 hz1 hz2 rfl (fun k => k < w4.heap.size ∧ col4 k = c + 4) _ fs4.length (rcells fs4) rfl ?_ (fun k => k = w4.heap.size) _ 1 (rc ⟨n, 0, false, 0, []⟩ (.slice none 0 0)) rfl ?_ ?_ ?_ ?_ ?_); exact (H4.out.list.mono (fun k hk e => ⟨hk, e⟩)).below ((Below.refl _ _).alloc (Nat.le_refl _) _); exact rd_newG rfl rfl (by unfold maxLen; omega); simp [rc, Value.oneCell']; (unfold maxLen; omega); omega; intro v7 w7 hs7 hc7; obtain ⟨a7, cap7, rfl⟩ := hs7.shape; have k67 := ((Chg.refl (fun k => k < w4.heap.size ∧ col4 k = c + 4) w4).alloc _).trans hc7; have p37 := k67.cellOf c2 (by rintro ⟨_, e⟩; simp only at e; omega); have f37 := k67.freeOf c2 f2 (by rintro ⟨_, e⟩; simp only at e; omega))
      obtain ⟨col8, h8, k8⟩ := H4.out.addEnd hc HK4.out.norm (w6 := w4) (f := ⟨n, 0, false, 0, []⟩) (v6 := .slice none 0 0) (Below.refl _ _) (SlAt.nil _ _ 5 1 _).rd ((Below.refl _ _).alloc (Nat.le_refl _) _) hc7 hs7 _ rfl
      have eF : (fs4 ++ [((⟨n, 0, false, 0, []⟩ : Frm), Value.slice none 0 0)]).length = fs4.length + 1 := by simp
      have hget : ∀ h, (fs4 ++ [((⟨n, 0, false, 0, []⟩ : Frm), Value.slice none 0 0)])[fs4.length]'h = (⟨n, 0, false, 0, []⟩, .slice none 0 0) := fun h => by simp
      have HV8 := Lib.hid (k8.rd hc HV4.out)
      have KT := Lib.hid (HK4.out.trans k8)
      have hfl : fs4.length = s.made.2.frames.length := H4.out.len
      have esF : (s.made.2.added ⟨n, 0, false, 0, []⟩).frames.set fs4.length ⟨n, 0, true, o, l⟩ = (s.made.2.added ⟨n, 0, true, o, l⟩).frames := by
        rw [hfl]; simp [CS.added]
      have erF : (s.made.2.added ⟨n, 0, false, 0, []⟩).frames.eraseIdx fs4.length ++ [⟨n, 0, true, o, l⟩] = (s.made.2.added ⟨n, 0, true, o, l⟩).frames := by
        rw [hfl]; simp [CS.added, List.eraseIdx_append_of_length_le]
      have okA := okS.out ⟨n, 0, true, o, l⟩ rfl HFIT.out.2.2 HO.out.1 HO.out.2
      have eA : ∀ X : List Frm, X = (s.made.2.added ⟨n, 0, true, o, l⟩).frames → ({ s.made.2.added ⟨n, 0, false, 0, []⟩ with frames := X } : CS) = s.made.2.added ⟨n, 0, true, o, l⟩ := fun X e => by rw [e]; rfl
      have OKG0 : ({ s.made.2.added ⟨n, 0, false, 0, []⟩ with frames := (s.made.2.added ⟨n, 0, false, 0, []⟩).frames.set fs4.length ⟨n, 0, true, o, l⟩ } : CS).Ok := by rw [eA _ esF]; exact okA
      have HEND1 : s.put n l o = (0, { s.made.2.added ⟨n, 0, false, 0, []⟩ with frames := (s.made.2.added ⟨n, 0, false, 0, []⟩).frames.eraseIdx fs4.length ++ [⟨n, 0, true, o, l⟩] }) := by rw [eA _ erF]; exact HEND0.out
      have HT0 : RCacheIn (w7.setCell ⟨b, 2, none⟩ (.slice a7 (fs4.length + 1) cap7)) col8 c b (s.made.2.added ⟨n, 0, false, 0, []⟩) db (.slice a7 (fs4 ++ [((⟨n, 0, false, 0, []⟩ : Frm), Value.slice none 0 0)]).length cap7) (fs4 ++ [((⟨n, 0, false, 0, []⟩ : Frm), Value.slice none 0 0)]) := by rw [eF]; exact h8
      have hjF : fs4.length < (fs4 ++ [((⟨n, 0, false, 0, []⟩ : Frm), Value.slice none 0 0)]).length := by rw [eF]; omega
      clear hfl esF erF okA eA h8 k8 hs7 hc7 k67 p37 f37 c2 f2 hb4 hcb4 okS HEND0 H4 HK4 HV4 HMO HNO
      generalize w7.setCell ⟨b, 2, none⟩ (.slice a7 (fs4.length + 1) cap7) = w8 at *
      rw [← eF]
      generalize s.made.2.added ⟨n, 0, false, 0, []⟩ = S at *
      have hgj := hget hjF
      clear hget
      generalize fs4 ++ [((⟨n, 0, false, 0, []⟩ : Frm), Value.slice none 0 0)] = F at *
      have j0 : (0 : Int) ≤ (fs4.length : Int) := by omega
      have j1 : (fs4.length : Int) < (F.length : Int) := by omega
      have j2 : ¬ (fs4.length : Int) < 0 := by omega
      clear eF
      generalize fs4.length = J at *
      have OKG : Hid (({ S with frames := S.frames.set J ⟨F[J].1.sector, F[J].1.pins, true, o, l⟩ } : CS).Ok) := by show CS.Ok _; rw [hgj]; exact OKG0
      have HEND : Hid (s.put n l o = (0, { S with frames := S.frames.eraseIdx J ++ [⟨F[J].1.sector, F[J].1.pins, true, o, l⟩] })) := by show _ = _; rw [hgj]; exact HEND1
      have HT := Lib.hid HT0
      have HV := HV8
      clear OKG0 HEND1 HT0 HV8 hgj
      obtain ⟨gT, offT, eT2, hgT, -, -, -, -, -⟩ := rframe_cells rfl HT.out.list.rd hjF
      subst eT2
      obtain ⟨-, -, cT2, -, -, -, -⟩ := cells_r HT.out.block
      obtain ⟨⟨u4, sp4⟩, fr4, hne, hglt⟩ := HT.out.spot hjF 4 (by omega) (.int .i64 0)
      have hbT := HT.out.lt
      have hnb : ¬ b = gT := fun e => hne e.symm
      have KB : Hid (∀ X, Chg (fun i => i = gT) w8 X → X.cell? ⟨b, 2, none⟩ = some (.slice (some ⟨gT, offT, none⟩) F.length cap7)) := fun X k => k.cellOf cT2 (fun e => hnb e)
      go_region_held3 (fun X => X.cell? ⟨b, 2, none⟩ = some (.slice (some ⟨gT, offT, none⟩) F.length cap7)) (exact KB.out _ (by ((repeat (first | with_reducible exact Chg.refl _ _ | with_reducible exact kc6 | with_reducible refine Chg.drew ?_ | with_reducible refine Chg.alloc ?_ _ | with_reducible refine Chg.setCell ?_ _ _ (fun _ => rfl))); done))) ((first | (refine step_append_sl rfl (.tmp 95) (.tmp 96) 34 rfl 5 i5 (.int .u8 0) 1 1 Try.underlying34 hi5 hz50 hz51 hz52 rfl (fun _ => False) _ 0 [] rfl (SlAt.nil _ _ _ _ _) (Nil0 col8) _ l.length (bcells l) rfl ?_ (bcells_one _) ?_ ?_ ?_; exact RdAt.below HV.out (by ((repeat (first | with_reducible exact Bl.refl _ | with_reducible exact k6 | with_reducible refine Bl.alloc ?_ _ | with_reducible refine Bl.drew ?_)); done)); (unfold maxLen; omega); omega; intro v6 w6 hs6 hc6; rw [Nat.zero_add, List.nil_append] at hs6; obtain ⟨a6, cap6, rfl⟩ := hs6.shape; (have k6 : Bl w8 w6 := Bl.trans (by ((repeat (first | with_reducible exact Bl.refl _ | with_reducible exact k6 | with_reducible refine Bl.alloc ?_ _ | with_reducible refine Bl.drew ?_)); done)) (hc6.below (Nat.le_refl _) (fun _ _ e => e))); (have kc6 : Chg (fun i => i = gT) w8 w6 := Chg.of_below k6); (have r6 : BytesAt w6 (fun k => w8.heap.size ≤ k) (.slice a6 l.length cap6) l := hs6.rd.mono (fun k hk e => by rcases e with e | e; exact e.elim; rw [e]; exact bl_size (by ((repeat (first | with_reducible exact Bl.refl _ | with_reducible exact k6 | with_reducible refine Bl.alloc ?_ _ | with_reducible refine Bl.drew ?_)); done)))); (have sp6 := (k6.cell (p := ⟨gT, offT + J * 5 + 4, none⟩) hglt).trans sp4); (have fr6 := (k6.frozen (p := ⟨gT, offT + J * 5 + 4, none⟩) hglt).trans fr4); (have hg6 : gT < w6.heap.size := Nat.lt_of_lt_of_le hglt k6.size))))
      obtain ⟨col7, h7, k7⟩ := HT.out.byteset hc KT.out.norm hjF k6 r6
      rw [List.length_set] at h7
      have hj7 : J < (F.set J ({ F[J].1 with bytes := l }, .slice a6 l.length cap6)).length := by simpa using hjF
      have e7 : (F.set J ({ F[J].1 with bytes := l }, .slice a6 l.length cap6))[J] = ({ F[J].1 with bytes := l }, .slice a6 l.length cap6) := by simp
      have H7 := Lib.hid h7
      have K7 := Lib.hid (KT.out.trans k7)
      have hl7 : (F.set J ({ F[J].1 with bytes := l }, .slice a6 l.length cap6)).length = F.length := List.length_set
      have h7' : RCacheIn (w6.setCell ⟨gT, offT + J * 5 + 4, none⟩ (.slice a6 l.length cap6)) col7 c b { S with frames := S.frames.set J { F[J].1 with bytes := l } } db (.slice (some ⟨gT, offT, none⟩) (F.set J ({ F[J].1 with bytes := l }, .slice a6 l.length cap6)).length cap7) (F.set J ({ F[J].1 with bytes := l }, .slice a6 l.length cap6)) := by rw [hl7]; exact h7
      obtain ⟨⟨u2, sp2⟩, fr2, -, hg7⟩ := h7'.spot hj7 2 (by omega) (.int .i64 0)
      obtain ⟨⟨u3, sp3⟩, fr3, -, -⟩ := h7'.spot hj7 3 (by omega) (.int .i64 0)
      obtain ⟨-, -, d2, -, -, -, -⟩ := cells_r h7.block
      have hb7 := h7.lt
      obtain ⟨h8, k8⟩ := (h7'.below (Bl.refl _).drew).dirtyset hc K7.out.drew.norm hj7 o
      rw [hl7] at h8
      simp only [e7] at h8
      have eS : ({ S with frames := (S.frames.set J { F[J].1 with bytes := l }).set J { F[J].1 with bytes := l, dirty := true, order := o } } : CS) = { S with frames := S.frames.set J ⟨F[J].1.sector, F[J].1.pins, true, o, l⟩ } := by simp
      have H8 := Lib.hid h8
      have K8 := Lib.hid (K7.out.drew.trans k8)
      have KB2 : Hid (∀ X, Chg (fun i => i = gT) (w6.setCell ⟨gT, offT + J * 5 + 4, none⟩ (.slice a6 l.length cap6)) X → X.cell? ⟨b, 2, none⟩ = some (.slice (some ⟨gT, offT, none⟩) F.length cap7)) := fun X k => k.cellOf d2 (fun e => hnb e)
      clear h7 h7' h8 k7 k8 k6 kc6 r6 sp6 fr6 hg6 hs6 hc6 cT2 sp4 fr4 hgT hglt hbT hl7 e7 KB hne
      generalize w6.setCell ⟨gT, offT + J * 5 + 4, none⟩ (.slice a6 l.length cap6) = w7 at *
      go_wp2_with fail
      go_region_held3 (fun X => X.cell? ⟨b, 2, none⟩ = some (.slice (some ⟨gT, offT, none⟩) F.length cap7)) (exact KB2.out _ (by ((repeat (first | with_reducible exact Chg.refl _ _ | with_reducible refine Chg.drew ?_ | with_reducible refine Chg.alloc ?_ _ | with_reducible refine Chg.setCell ?_ _ _ (fun _ => rfl))); done))) (fail)
      go_wp2_with fail
      refine (ruse_any H8.out hc K8.out.norm (by have := OKG.out; rw [← eS] at this; exact this) (by simpa using hjF) { S with frames := S.frames.eraseIdx J ++ [⟨F[J].1.sector, F[J].1.pins, true, o, l⟩] } (fun hs => by
        have e := set_used (s := S) (j := J) (by have := HT.out.len; omega) OKG.out
        rw [← e]
        simp)).mono ?_
      rintro e w9 ⟨rfl, col9, a9, cap9, h9, k9⟩
      have H9 := Lib.hid h9
      have K9 := Lib.hid (K8.out.trans k9)
      clear h9 k9
      go_wp2_with fail
      go_ret
      rw [HEND.out]
      exact ⟨rfl, col9, H9.out.at, K9.out⟩
    · have HM := HPU.out
      rw [if_neg hz] at HM
      have HEND := Lib.hid HM
      have hzz : (s.made.1 != 0) = true := by simp [hz]
      have H4 := Lib.hid h4
      have HK4 := Lib.hid (HK1.out.trans k4)
      clear h4 k4 hz HM HPU
      go_wp2_with fail
      go_ret
      rw [HEND.out]
      exact ⟨rfl, col4, H4.out.at, HK4.out⟩
  · rw [hpl] at HF
    have HPU := Lib.hid (put_old (o := o) hfit hl)
    have hjF : j < fs.length := by rw [h.len]; exact hj
    have hef : s.frames[j] = fs[j].1 := by simp [← h.fr]
    have hre := rest_erase ok hj
    rw [hsec] at hre
    rw [hef] at HPU hsec
    have HRE := Lib.hid hre
    have HSEC := Lib.hid hsec
    have HEF := Lib.hid hef
    have OKG : Hid (({ s with frames := s.frames.set j ⟨fs[j].1.sector, fs[j].1.pins, true, o, l⟩ } : CS).Ok) := set_Ok ok hj (by rw [hef]) hfit.2.2 ho
    have j0 : (0 : Int) ≤ (j : Int) := by omega
    have j1 : (j : Int) < (fs.length : Int) := by omega
    have j2 : ¬ (j : Int) < 0 := by omega
    clear h hnm ok hp ho hv hfit hd ed e0 e1 hpl hl hre hsec hef
    generalize s.d.count = cnt at h2 d1
    generalize s.d.size = sz at h3 d0
    unfold ptr at *
    go_enter Try.func58, Try.ntmps58
    go_wp2_with fail
    refine HF.out.mono ?_
    rintro e w1 ⟨rfl, k1⟩
    have HT := Lib.hid (H.out.below k1)
    have KT := Lib.hid (KStep.below (c := c) HNM.out k1)
    have HV := Lib.hid (HV0.out.below k1)
    obtain ⟨a1, cap1, e1⟩ := HT.out.shape
    have hrd := HT.out.list.rd
    rw [e1] at hrd
    obtain ⟨g, off, e2, hg, q0, q1, q2, q3, q4⟩ := rframe_cells rfl hrd hjF
    rw [e2] at e1
    subst e1
    obtain ⟨-, -, c2, -, -, -, -⟩ := cells_r HT.out.block
    have hb1 := HT.out.lt
    have hside : (fs[j].1.dirty = true ∧ o < fs[j].1.order) ∨ fs[j].1.dirty = false ∨ (fs[j].1.dirty = true ∧ ¬ o < fs[j].1.order) := by
      cases hd : fs[j].1.dirty with
      | false => exact Or.inr (Or.inl rfl)
      | true =>
        by_cases ho : o < fs[j].1.order
        · exact Or.inl ⟨rfl, ho⟩
        · exact Or.inr (Or.inr ⟨rfl, ho⟩)
    clear k1 hrd e2 HF d0 d1 b0
    rcases hside with ⟨b1, b2⟩ | b1 | ⟨b1, b2⟩
    · have HM := HPU.out
      rw [if_pos ⟨b1, b2⟩] at HM
      have HEND := Lib.hid HM
      clear HM HPU
      rw [b1] at q2
      go_wp2_with fail
      go_ret
      rw [HEND.out]
      exact ⟨rfl, col, HT.out.at, KT.out⟩
    · have HM := HPU.out
      rw [if_neg (by rw [b1]; simp), HRE.out] at HM
      have HEND : Hid (s.put n l o = (0, { s with frames := s.frames.eraseIdx j ++ [⟨fs[j].1.sector, fs[j].1.pins, true, o, l⟩] })) := by show _ = _; rw [HSEC.out]; exact HM
      clear HM HPU
      rw [b1] at q2
      clear b1
      go_wp2_with fail
      clear q0 q1 q2 q3 q4 c2 hg
      obtain ⟨-, -, cT2, -, -, -, -⟩ := cells_r HT.out.block
      obtain ⟨⟨u4, sp4⟩, fr4, hne, hglt⟩ := HT.out.spot hjF 4 (by omega) (.int .i64 0)
      have hbT := HT.out.lt
      have hnb : ¬ b = g := fun e => hne e.symm
      have KB : Hid (∀ X, Chg (fun i => i = g) w1 X → X.cell? ⟨b, 2, none⟩ = some (.slice (some ⟨g, off, none⟩) fs.length cap1)) := fun X k => k.cellOf cT2 (fun e => hnb e)
      go_region_held3 (fun X => X.cell? ⟨b, 2, none⟩ = some (.slice (some ⟨g, off, none⟩) fs.length cap1)) (exact KB.out _ (by ((repeat (first | with_reducible exact Chg.refl _ _ | with_reducible exact kc6 | with_reducible refine Chg.drew ?_ | with_reducible refine Chg.alloc ?_ _ | with_reducible refine Chg.setCell ?_ _ _ (fun _ => rfl))); done))) ((first | (refine step_append_sl rfl (.tmp 95) (.tmp 96) 34 rfl 5 i5 (.int .u8 0) 1 1 Try.underlying34 hi5 hz50 hz51 hz52 rfl (fun _ => False) _ 0 [] rfl (SlAt.nil _ _ _ _ _) (Nil0 col) _ l.length (bcells l) rfl ?_ (bcells_one _) ?_ ?_ ?_; exact RdAt.below HV.out (by ((repeat (first | with_reducible exact Bl.refl _ | with_reducible exact k6 | with_reducible refine Bl.alloc ?_ _ | with_reducible refine Bl.drew ?_)); done)); (unfold maxLen; omega); omega; intro v6 w6 hs6 hc6; rw [Nat.zero_add, List.nil_append] at hs6; obtain ⟨a6, cap6, rfl⟩ := hs6.shape; (have k6 : Bl w1 w6 := Bl.trans (by ((repeat (first | with_reducible exact Bl.refl _ | with_reducible exact k6 | with_reducible refine Bl.alloc ?_ _ | with_reducible refine Bl.drew ?_)); done)) (hc6.below (Nat.le_refl _) (fun _ _ e => e))); (have kc6 : Chg (fun i => i = g) w1 w6 := Chg.of_below k6); (have r6 : BytesAt w6 (fun k => w1.heap.size ≤ k) (.slice a6 l.length cap6) l := hs6.rd.mono (fun k hk e => by rcases e with e | e; exact e.elim; rw [e]; exact bl_size (by ((repeat (first | with_reducible exact Bl.refl _ | with_reducible exact k6 | with_reducible refine Bl.alloc ?_ _ | with_reducible refine Bl.drew ?_)); done)))); (have sp6 := (k6.cell (p := ⟨g, off + j * 5 + 4, none⟩) hglt).trans sp4); (have fr6 := (k6.frozen (p := ⟨g, off + j * 5 + 4, none⟩) hglt).trans fr4); (have hg6 : g < w6.heap.size := Nat.lt_of_lt_of_le hglt k6.size))))
      obtain ⟨col7, h7, k7⟩ := HT.out.byteset hc KT.out.norm hjF k6 r6
      rw [List.length_set] at h7
      have hj7 : j < (fs.set j ({ fs[j].1 with bytes := l }, .slice a6 l.length cap6)).length := by simpa using hjF
      have e7 : (fs.set j ({ fs[j].1 with bytes := l }, .slice a6 l.length cap6))[j] = ({ fs[j].1 with bytes := l }, .slice a6 l.length cap6) := by simp
      have H7 := Lib.hid h7
      have K7 := Lib.hid (KT.out.trans k7)
      have hl7 : (fs.set j ({ fs[j].1 with bytes := l }, .slice a6 l.length cap6)).length = fs.length := List.length_set
      have h7' : RCacheIn (w6.setCell ⟨g, off + j * 5 + 4, none⟩ (.slice a6 l.length cap6)) col7 c b { s with frames := s.frames.set j { fs[j].1 with bytes := l } } db (.slice (some ⟨g, off, none⟩) (fs.set j ({ fs[j].1 with bytes := l }, .slice a6 l.length cap6)).length cap1) (fs.set j ({ fs[j].1 with bytes := l }, .slice a6 l.length cap6)) := by rw [hl7]; exact h7
      obtain ⟨⟨u2, sp2⟩, fr2, -, hg7⟩ := h7'.spot hj7 2 (by omega) (.int .i64 0)
      obtain ⟨⟨u3, sp3⟩, fr3, -, -⟩ := h7'.spot hj7 3 (by omega) (.int .i64 0)
      obtain ⟨-, -, d2, -, -, -, -⟩ := cells_r h7.block
      have hb7 := h7.lt
      obtain ⟨h8, k8⟩ := (h7'.below (Bl.refl _).drew).dirtyset hc K7.out.drew.norm hj7 o
      rw [hl7] at h8
      simp only [e7] at h8
      have eS : ({ s with frames := (s.frames.set j { fs[j].1 with bytes := l }).set j { fs[j].1 with bytes := l, dirty := true, order := o } } : CS) = { s with frames := s.frames.set j ⟨fs[j].1.sector, fs[j].1.pins, true, o, l⟩ } := by simp
      have H8 := Lib.hid h8
      have K8 := Lib.hid (K7.out.drew.trans k8)
      have KB2 : Hid (∀ X, Chg (fun i => i = g) (w6.setCell ⟨g, off + j * 5 + 4, none⟩ (.slice a6 l.length cap6)) X → X.cell? ⟨b, 2, none⟩ = some (.slice (some ⟨g, off, none⟩) fs.length cap1)) := fun X k => k.cellOf d2 (fun e => hnb e)
      clear h7 h7' h8 k7 k8 k6 kc6 r6 sp6 fr6 hg6 hs6 hc6 cT2 sp4 fr4 hglt hbT hl7 e7 KB hne
      generalize w6.setCell ⟨g, off + j * 5 + 4, none⟩ (.slice a6 l.length cap6) = w7 at *
      go_wp2_with fail
      go_region_held3 (fun X => X.cell? ⟨b, 2, none⟩ = some (.slice (some ⟨g, off, none⟩) fs.length cap1)) (exact KB2.out _ (by ((repeat (first | with_reducible exact Chg.refl _ _ | with_reducible refine Chg.drew ?_ | with_reducible refine Chg.alloc ?_ _ | with_reducible refine Chg.setCell ?_ _ _ (fun _ => rfl))); done))) (fail)
      go_wp2_with fail
      refine (ruse_any H8.out hc K8.out.norm (by have := OKG.out; rw [← eS] at this; exact this) (by simpa using hjF) { s with frames := s.frames.eraseIdx j ++ [⟨fs[j].1.sector, fs[j].1.pins, true, o, l⟩] } (fun hs => by
        have e := set_used (s := s) (j := j) (by have := HT.out.len; omega) OKG.out
        rw [← e]
        simp)).mono ?_
      rintro e w9 ⟨rfl, col9, a9, cap9, h9, k9⟩
      have H9 := Lib.hid h9
      have K9 := Lib.hid (K8.out.trans k9)
      clear h9 k9
      go_wp2_with fail
      go_ret
      rw [HEND.out]
      exact ⟨rfl, col9, H9.out.at, K9.out⟩
    · have HM := HPU.out
      rw [if_neg (by rintro ⟨-, e⟩; exact b2 e), HRE.out] at HM
      have HEND : Hid (s.put n l o = (0, { s with frames := s.frames.eraseIdx j ++ [⟨fs[j].1.sector, fs[j].1.pins, true, o, l⟩] })) := by show _ = _; rw [HSEC.out]; exact HM
      clear HM HPU
      rw [b1] at q2
      clear b1
      go_wp2_with fail
      clear q0 q1 q2 q3 q4 c2 hg
      obtain ⟨-, -, cT2, -, -, -, -⟩ := cells_r HT.out.block
      obtain ⟨⟨u4, sp4⟩, fr4, hne, hglt⟩ := HT.out.spot hjF 4 (by omega) (.int .i64 0)
      have hbT := HT.out.lt
      have hnb : ¬ b = g := fun e => hne e.symm
      have KB : Hid (∀ X, Chg (fun i => i = g) w1 X → X.cell? ⟨b, 2, none⟩ = some (.slice (some ⟨g, off, none⟩) fs.length cap1)) := fun X k => k.cellOf cT2 (fun e => hnb e)
      go_region_held3 (fun X => X.cell? ⟨b, 2, none⟩ = some (.slice (some ⟨g, off, none⟩) fs.length cap1)) (exact KB.out _ (by ((repeat (first | with_reducible exact Chg.refl _ _ | with_reducible exact kc6 | with_reducible refine Chg.drew ?_ | with_reducible refine Chg.alloc ?_ _ | with_reducible refine Chg.setCell ?_ _ _ (fun _ => rfl))); done))) ((first | (refine step_append_sl rfl (.tmp 95) (.tmp 96) 34 rfl 5 i5 (.int .u8 0) 1 1 Try.underlying34 hi5 hz50 hz51 hz52 rfl (fun _ => False) _ 0 [] rfl (SlAt.nil _ _ _ _ _) (Nil0 col) _ l.length (bcells l) rfl ?_ (bcells_one _) ?_ ?_ ?_; exact RdAt.below HV.out (by ((repeat (first | with_reducible exact Bl.refl _ | with_reducible exact k6 | with_reducible refine Bl.alloc ?_ _ | with_reducible refine Bl.drew ?_)); done)); (unfold maxLen; omega); omega; intro v6 w6 hs6 hc6; rw [Nat.zero_add, List.nil_append] at hs6; obtain ⟨a6, cap6, rfl⟩ := hs6.shape; (have k6 : Bl w1 w6 := Bl.trans (by ((repeat (first | with_reducible exact Bl.refl _ | with_reducible exact k6 | with_reducible refine Bl.alloc ?_ _ | with_reducible refine Bl.drew ?_)); done)) (hc6.below (Nat.le_refl _) (fun _ _ e => e))); (have kc6 : Chg (fun i => i = g) w1 w6 := Chg.of_below k6); (have r6 : BytesAt w6 (fun k => w1.heap.size ≤ k) (.slice a6 l.length cap6) l := hs6.rd.mono (fun k hk e => by rcases e with e | e; exact e.elim; rw [e]; exact bl_size (by ((repeat (first | with_reducible exact Bl.refl _ | with_reducible exact k6 | with_reducible refine Bl.alloc ?_ _ | with_reducible refine Bl.drew ?_)); done)))); (have sp6 := (k6.cell (p := ⟨g, off + j * 5 + 4, none⟩) hglt).trans sp4); (have fr6 := (k6.frozen (p := ⟨g, off + j * 5 + 4, none⟩) hglt).trans fr4); (have hg6 : g < w6.heap.size := Nat.lt_of_lt_of_le hglt k6.size))))
      obtain ⟨col7, h7, k7⟩ := HT.out.byteset hc KT.out.norm hjF k6 r6
      rw [List.length_set] at h7
      have hj7 : j < (fs.set j ({ fs[j].1 with bytes := l }, .slice a6 l.length cap6)).length := by simpa using hjF
      have e7 : (fs.set j ({ fs[j].1 with bytes := l }, .slice a6 l.length cap6))[j] = ({ fs[j].1 with bytes := l }, .slice a6 l.length cap6) := by simp
      have H7 := Lib.hid h7
      have K7 := Lib.hid (KT.out.trans k7)
      have hl7 : (fs.set j ({ fs[j].1 with bytes := l }, .slice a6 l.length cap6)).length = fs.length := List.length_set
      have h7' : RCacheIn (w6.setCell ⟨g, off + j * 5 + 4, none⟩ (.slice a6 l.length cap6)) col7 c b { s with frames := s.frames.set j { fs[j].1 with bytes := l } } db (.slice (some ⟨g, off, none⟩) (fs.set j ({ fs[j].1 with bytes := l }, .slice a6 l.length cap6)).length cap1) (fs.set j ({ fs[j].1 with bytes := l }, .slice a6 l.length cap6)) := by rw [hl7]; exact h7
      obtain ⟨⟨u2, sp2⟩, fr2, -, hg7⟩ := h7'.spot hj7 2 (by omega) (.int .i64 0)
      obtain ⟨⟨u3, sp3⟩, fr3, -, -⟩ := h7'.spot hj7 3 (by omega) (.int .i64 0)
      obtain ⟨-, -, d2, -, -, -, -⟩ := cells_r h7.block
      have hb7 := h7.lt
      obtain ⟨h8, k8⟩ := (h7'.below (Bl.refl _).drew).dirtyset hc K7.out.drew.norm hj7 o
      rw [hl7] at h8
      simp only [e7] at h8
      have eS : ({ s with frames := (s.frames.set j { fs[j].1 with bytes := l }).set j { fs[j].1 with bytes := l, dirty := true, order := o } } : CS) = { s with frames := s.frames.set j ⟨fs[j].1.sector, fs[j].1.pins, true, o, l⟩ } := by simp
      have H8 := Lib.hid h8
      have K8 := Lib.hid (K7.out.drew.trans k8)
      have KB2 : Hid (∀ X, Chg (fun i => i = g) (w6.setCell ⟨g, off + j * 5 + 4, none⟩ (.slice a6 l.length cap6)) X → X.cell? ⟨b, 2, none⟩ = some (.slice (some ⟨g, off, none⟩) fs.length cap1)) := fun X k => k.cellOf d2 (fun e => hnb e)
      clear h7 h7' h8 k7 k8 k6 kc6 r6 sp6 fr6 hg6 hs6 hc6 cT2 sp4 fr4 hglt hbT hl7 e7 KB hne
      generalize w6.setCell ⟨g, off + j * 5 + 4, none⟩ (.slice a6 l.length cap6) = w7 at *
      go_wp2_with fail
      go_region_held3 (fun X => X.cell? ⟨b, 2, none⟩ = some (.slice (some ⟨g, off, none⟩) fs.length cap1)) (exact KB2.out _ (by ((repeat (first | with_reducible exact Chg.refl _ _ | with_reducible refine Chg.drew ?_ | with_reducible refine Chg.alloc ?_ _ | with_reducible refine Chg.setCell ?_ _ _ (fun _ => rfl))); done))) (fail)
      go_wp2_with fail
      refine (ruse_any H8.out hc K8.out.norm (by have := OKG.out; rw [← eS] at this; exact this) (by simpa using hjF) { s with frames := s.frames.eraseIdx j ++ [⟨fs[j].1.sector, fs[j].1.pins, true, o, l⟩] } (fun hs => by
        have e := set_used (s := s) (j := j) (by have := HT.out.len; omega) OKG.out
        rw [← e]
        simp)).mono ?_
      rintro e w9 ⟨rfl, col9, a9, cap9, h9, k9⟩
      have H9 := Lib.hid h9
      have K9 := Lib.hid (K8.out.trans k9)
      clear h9 k9
      go_wp2_with fail
      go_ret
      rw [HEND.out]
      exact ⟨rfl, col9, H9.out.at, K9.out⟩

end
end Go.Proofs.Ytjjgihaikcnjgaa
/-
  The document's cache: Drop, All, New.
-/
namespace Go.Proofs.Ytjjgihaikcnjgaa
open Go.RowKit Go.Maps
set_option linter.unusedSimpArgs false
set_option linter.unusedVariables false
set_option maxRecDepth 100000

def keepR (l : List (Frm × Value)) : List (Frm × Value) := l.filter (fun x => x.1.stays)
theorem keepR_next {fs : List (Frm × Value)} {j : Nat} (hj : j < fs.length) : keepR (fs.take (j + 1)) = keepR (fs.take j) ++ (if fs[j].1.stays then [fs[j]] else []) := by
  rw [List.take_succ_eq_append_getElem hj]; unfold keepR; rw [List.filter_append]; congr 1; by_cases h : fs[j].1.stays = true <;> simp [h]
theorem keepR_map (l : List (Frm × Value)) : (keepR l).map Prod.fst = (l.map Prod.fst).filter Frm.stays := by unfold keepR; rw [List.filter_map]; rfl
theorem keepR_len (l : List (Frm × Value)) : (keepR l).length ≤ l.length := List.length_filter_le _ _
section
variable {w : World} {col : Nat → Nat} {c b db : Nat} {s : CS} {fv : Value} {fs : List (Frm × Value)}
set_option maxHeartbeats 4000000 in
theorem rdrop_any (h : RCacheIn w col c b s db fv fs) (hc : 1 < c) (hnm : Norm w col) (ok : s.Ok) (hp0 : ∀ f ∈ s.frames, 0 ≤ f.pins) :
    Calls Try.prog 61 #[ptr b] w fun e w' => e = .returned (.int .i64 ((s.frames.length : Int) - s.drop.frames.length)) ∧ RNow w col c b db s.drop w' := by
  obtain ⟨i0, hi0, hz0, hz1, hz2⟩ := info_parts info121
  obtain ⟨-, -, b2, -, -, -, -⟩ := cells_r h.block
  have f2 := free_of_block h.block 2
  obtain ⟨a, cap, rfl⟩ := h.shape
  have HL := Lib.hid h.list.rd
  have hlen : fs.length ≤ 4096 := by have := h.len; have := ok.len; have := ok.room1; omega
  have HBY := Lib.hid h.shapes
  have hbl := h.lt
  have H := Lib.hid h
  have HNM := Lib.hid hnm
  have HPI : Hid (∀ j (hj : j < fs.length), 0 ≤ fs[j].1.pins) := fun j hj => hp0 _ (by rw [← h.fr]; exact List.mem_map_of_mem (List.getElem_mem hj))
  clear h hnm ok hp0
  unfold ptr
  go_enter Try.func61, Try.ntmps61
  go_wp2_with fail
  go_loopw [3, 12] (fun v3 i wr => ∃ (j : Nat) (K : List (Frm × Value)) (a3 : Option Addr) (c3 : Nat), j ≤ fs.length ∧ i = .int .i64 j ∧ K = keepR (fs.take j) ∧ v3 = .slice a3 K.length c3 ∧ SlAt wr (fun k => w.heap.size ≤ k) 121 5 v3 K.length (rcells K) ∧ Below w.heap.size w wr) (fun _ i _ => fs.length - (intOf i).toNat)
  case atStart => exact ⟨0, [], none, 0, Nat.zero_le _, rfl, by simp [keepR], rfl, SlAt.nil _ _ _ _ _, Below.refl _ _⟩
  case round =>
    obtain ⟨j, K, a3, c3, hj, rfl, hK, rfl, hsl, hb⟩ := hrel
    have j0 : (0 : Int) ≤ (j : Int) := by omega
    have j9 : (j : Int) ≤ 4096 := by omega
    have hKl : K.length ≤ j := by have := keepR_len (fs.take j); rw [← hK, List.length_take] at this; omega
    have hsz := hb.size
    by_cases hjn : j < fs.length
    · have j1 : (j : Int) < (fs.length : Int) := by omega
      obtain ⟨g, off, rfl, hg, q0, q1, q2, q3, q4⟩ := rframe_cells rfl (HL.out.below hb) hjn
      have HB := Lib.hid hb
      have HNX := Lib.hid (keepR_next hjn)
      rw [← hK] at HNX
      have hpi := HPI.out j hjn
      obtain ⟨av, cv, ev⟩ := HBY.out _ (List.getElem_mem hjn)
      have HSL := Lib.hid hsl
      clear hb b2 f2 hK hsl
      generalize hfj : fs[j] = fj at *
      clear hfj
      obtain ⟨⟨fsec, fp, fd, fo, fb⟩, fv⟩ := fj
      simp only at q0 q1 q2 q3 q4 ev hpi
      subst ev
      have hside : ((Frm.mk fsec fp fd fo fb).stays = true ∧ (fd = true ∨ (fd = false ∧ 0 < fp))) ∨ ((Frm.mk fsec fp fd fo fb).stays = false ∧ fd = false ∧ ¬ 0 < fp) := by
        cases fd with
        | true => exact Or.inl ⟨by simp [Frm.stays], Or.inl rfl⟩
        | false =>
          by_cases hp : 0 < fp
          · exact Or.inl ⟨by simp [Frm.stays]; omega, Or.inr ⟨rfl, hp⟩⟩
          · exact Or.inr ⟨by simp [Frm.stays]; omega, rfl, hp⟩
      rcases hside with ⟨hst, hfd⟩ | ⟨hst, rfl, hp⟩
      · have HST := Lib.hid hst
        clear hst
        rcases hfd with rfl | ⟨rfl, hfp⟩
        · go_wp2_with (at_builtin; go_must (refine wpList_append_sl rfl _ _ 72 rfl 121 i0 (.agg #[.int .i64 0, .int .i64 0, .bool false, .int .u64 0, .slice none 0 0]) 5 56 Try.underlying72 hi0 hz0 hz1 hz2 rfl (fun k => w.heap.size ≤ k) _ K.length (rcells K) rfl ?_ (fun k => k = wr.heap.size + 1) _ 1 (rc ⟨fsec, fp, true, fo, fb⟩ (.slice av fb.length cv)) rfl ?_ ?_ ?_ ?_ ?_); exact HSL.out.below (((Below.refl _ _).alloc (Nat.le_refl _) _).alloc (by simp) _); exact rd_newG (by simp) rfl (by unfold maxLen; omega); simp [rc, Value.oneCell']; (unfold maxLen; omega); omega; intro v7 w7 hs7 hc7; obtain ⟨a7, cap7, rfl⟩ := hs7.shape)
          go_roundw
          case rel =>
            have e1 := HNX.out
            rw [if_pos HST.out] at e1
            refine ⟨j + 1, _, a7, cap7, by omega, by go_num, e1.symm, by simp, ?_, HB.out.trans (hc7.below (by simp; omega) (fun i hi e => by omega) |> fun k => Below.trans (((Below.refl w.heap.size wr).alloc hsz _).alloc (by simp; omega) _) k)⟩
            rw [List.length_append, rcells_append]
            exact hs7.mono (fun k _ e => by rcases e with e | e; exact e; (simp at e; omega))
          case measure => simp [intOf]; omega
        · go_wp2_with (at_builtin; go_must (refine wpList_append_sl rfl _ _ 72 rfl 121 i0 (.agg #[.int .i64 0, .int .i64 0, .bool false, .int .u64 0, .slice none 0 0]) 5 56 Try.underlying72 hi0 hz0 hz1 hz2 rfl (fun k => w.heap.size ≤ k) _ K.length (rcells K) rfl ?_ (fun k => k = wr.heap.size + 1) _ 1 (rc ⟨fsec, fp, false, fo, fb⟩ (.slice av fb.length cv)) rfl ?_ ?_ ?_ ?_ ?_); exact HSL.out.below (((Below.refl _ _).alloc (Nat.le_refl _) _).alloc (by simp) _); exact rd_newG (by simp) rfl (by unfold maxLen; omega); simp [rc, Value.oneCell']; (unfold maxLen; omega); omega; intro v7 w7 hs7 hc7; obtain ⟨a7, cap7, rfl⟩ := hs7.shape)
          go_roundw
          case rel =>
            have e1 := HNX.out
            rw [if_pos HST.out] at e1
            refine ⟨j + 1, _, a7, cap7, by omega, by go_num, e1.symm, by simp, ?_, HB.out.trans (hc7.below (by simp; omega) (fun i hi e => by omega) |> fun k => Below.trans (((Below.refl w.heap.size wr).alloc hsz _).alloc (by simp; omega) _) k)⟩
            rw [List.length_append, rcells_append]
            exact hs7.mono (fun k _ e => by rcases e with e | e; exact e; (simp at e; omega))
          case measure => simp [intOf]; omega
      · have HST := Lib.hid hst
        clear hst
        go_wp2_with fail
        go_roundw
        case rel =>
          have e1 := HNX.out
          rw [if_neg (by rw [HST.out]; decide), List.append_nil] at e1
          exact ⟨j + 1, K, a3, c3, by omega, by go_num, e1.symm, rfl, HSL.out.below ((Below.refl _ _).alloc (Nat.le_refl _) _), HB.out.alloc hsz _⟩
        case measure => simp [intOf]; omega
    · obtain rfl : j = fs.length := by omega
      rw [List.take_length] at hK
      have p2 := (hb.cell (p := ⟨b, 2, none⟩) hbl).trans b2
      have g2 := (hb.frozen (p := ⟨b, 2, none⟩) hbl).trans f2
      have hwr : IntKind.i64.wrap ((fs.length : Int) - (K.length : Int)) = (fs.length : Int) - (K.length : Int) := IntWalk.i64_in _ (by omega)
      have hbr : b < wr.heap.size := by omega
      have eK : ({ s with frames := K.map Prod.fst } : CS) = s.drop := by unfold CS.drop; rw [hK, keepR_map, H.out.fr]
      obtain ⟨col', h8, k8⟩ := H.out.relist hc HNM.out (Chg.of_below hb) (fun _ => False) (fs' := K) (v' := .slice a3 K.length c3) (hsl.mono (fun i _ e => Or.inl ⟨e, not_false⟩)) (fun p hp => ((H.out.bytes p (by rw [hK] at hp; exact (List.mem_filter.1 hp).1)).below hb).mono (fun i _ e => Or.inl e)) _ rfl
      rw [eK] at h8
      have e1 : (fs.length : Int) = s.frames.length := by rw [← H.out.fr]; simp
      have e2 : (K.length : Int) = s.drop.frames.length := by rw [← eK]; simp
      have H8 := Lib.hid h8
      have K8 := Lib.hid k8
      have E1 := Lib.hid e1
      have E2 := Lib.hid e2
      clear h8 k8 e1 e2 eK hK b2 f2 hb hsl
      go_wp2_with fail
      go_ret
      rw [← E1.out, ← E2.out]
      exact ⟨rfl, col', H8.out.at, K8.out⟩
set_option maxHeartbeats 4000000 in
theorem rall_any (h : RCacheIn w col c b s db fv fs) (ok : s.Ok) :
    Calls Try.prog 62 #[ptr b] w fun e w' => (∃ a cap, e = .returned (.slice a s.frames.length cap) ∧ SlAt w' (fun k => w.heap.size ≤ k) 43 4 (.slice a s.frames.length cap) s.frames.length (fcells s.frames)) ∧ Below w.heap.size w w' := by
  obtain ⟨i0, hi0, hz0, hz1, hz2⟩ := info_parts info43
  obtain ⟨-, -, b2, -, -, -, -⟩ := cells_r h.block
  obtain ⟨a, cap, rfl⟩ := h.shape
  have HL := Lib.hid h.list.rd
  have hlen : fs.length ≤ 4096 := by have := h.len; have := ok.len; have := ok.room1; omega
  have HBY := Lib.hid h.shapes
  have hbl := h.lt
  have HFR := Lib.hid h.fr
  clear h ok
  unfold ptr
  go_enter Try.func62, Try.ntmps62
  go_wp2_with fail
  go_loopw [3, 11] (fun v3 i wr => ∃ (j : Nat) (a3 : Option Addr) (c3 : Nat), j ≤ fs.length ∧ i = .int .i64 j ∧ v3 = .slice a3 j c3 ∧ SlAt wr (fun k => w.heap.size ≤ k) 43 4 v3 j (fcells ((fs.take j).map Prod.fst)) ∧ Below w.heap.size w wr) (fun _ i _ => fs.length - (intOf i).toNat)
  case atStart => exact ⟨0, none, 0, Nat.zero_le _, rfl, rfl, SlAt.nil _ _ _ _ _, Below.refl _ _⟩
  case round =>
    obtain ⟨j, a3, c3, hj, rfl, rfl, hsl, hb⟩ := hrel
    have j0 : (0 : Int) ≤ (j : Int) := by omega
    have j9 : (j : Int) ≤ 4096 := by omega
    have hsz := hb.size
    by_cases hjn : j < fs.length
    · have j1 : (j : Int) < (fs.length : Int) := by omega
      obtain ⟨g, off, rfl, hg, q0, q1, q2, q3, q4⟩ := rframe_cells rfl (HL.out.below hb) hjn
      have HB := Lib.hid hb
      have HNX : Hid (fcells ((fs.take (j + 1)).map Prod.fst) = fcells ((fs.take j).map Prod.fst) ++ fcell fs[j].1) := by
        show _ = _
        rw [List.take_succ_eq_append_getElem hjn, List.map_append, List.map_cons, List.map_nil, fcells_snoc]
      obtain ⟨av, cv, ev⟩ := HBY.out _ (List.getElem_mem hjn)
      have HSL := Lib.hid hsl
      clear hb b2 hsl
      generalize hfj : fs[j] = fj at *
      clear hfj
      obtain ⟨⟨fsec, fp, fd, fo, fb⟩, fv⟩ := fj
      simp only at q0 q1 q2 q3 q4 ev HNX
      subst ev
      generalize fcells ((fs.take j).map Prod.fst) = xs at *
      go_wp2_with (at_builtin; go_must (refine wpList_append_sl rfl _ _ 32 rfl 43 i0 (.agg #[.int .i64 0, .int .i64 0, .bool false, .int .u64 0]) 4 32 Try.underlying32 hi0 hz0 hz1 hz2 rfl (fun k => w.heap.size ≤ k) _ j xs rfl ?_ (fun k => k = wr.heap.size + 1) _ 1 (fcell ⟨fsec, fp, fd, fo, fb⟩) rfl ?_ ?_ ?_ ?_ ?_); exact HSL.out.below (((Below.refl _ _).alloc (Nat.le_refl _) _).alloc (by simp) _); exact rd_newG (by simp) rfl (by unfold maxLen; omega); simp [fcell, Value.oneCell']; (unfold maxLen; omega); omega; intro v7 w7 hs7 hc7; obtain ⟨a7, cap7, rfl⟩ := hs7.shape)
      go_roundw
      case rel =>
        refine ⟨j + 1, a7, cap7, by omega, by go_num, rfl, ?_, HB.out.trans (hc7.below (by simp; omega) (fun i hi e => by omega) |> fun k => Below.trans (((Below.refl w.heap.size wr).alloc hsz _).alloc (by simp; omega) _) k)⟩
        rw [HNX.out]
        exact hs7.mono (fun k _ e => by rcases e with e | e; exact e; (simp at e; omega))
      case measure => simp [intOf]; omega
    · obtain rfl : j = fs.length := by omega
      rw [List.take_length, HFR.out] at hsl
      have e1 : fs.length = s.frames.length := by rw [← HFR.out]; simp
      have HSL := Lib.hid hsl
      have HB := Lib.hid hb
      have E1 := Lib.hid e1
      clear hsl hb e1
      go_wp2_with fail
      go_ret
      have h1 := HSL.out
      rw [E1.out] at h1 ⊢
      exact ⟨⟨a3, c3, rfl, h1⟩, HB.out⟩
theorem rnew_bad (w : World) (v : Value) (hv : v = .pointer none ∨ ∃ a, v = .pointer (some a)) (room : Int) (hr : ¬ (1 ≤ room ∧ room ≤ 4096)) :
    Calls Try.prog 54 #[v, .int .i64 room] w fun e w' => e = .returned (.tuple #[.pointer none, .int .i64 1]) ∧ w' = w := by
  have h12 : room < 1 ∨ (¬ room < 1 ∧ 4096 < room) := by omega
  rcases hv with rfl | ⟨a, rfl⟩
  all_goals rcases h12 with h1 | ⟨h1, h2⟩
  all_goals
    go_enter Try.func54, Try.ntmps54
    go_wp2_with fail
    refine bodyPost_ret (v := .tuple #[.pointer none, .int .i64 1]) (by simp [results, Try.results54, go_sem, *]) rfl ?_
    exact ⟨rfl, rfl⟩
theorem rnew_any (hd : RefAt w col c db s.d) (hc : 1 < c) (hnm : Norm w col) (room : Int) (hr : 1 ≤ room ∧ room ≤ 4096) :
    Calls Try.prog 54 #[ptr db, .int .i64 room] w fun e w' => e = .returned (.tuple #[ptr w.heap.size, .int .i64 0]) ∧ RNow w col c w.heap.size db (CS.new s.d room) w' := by
  have h1 : ¬ room < 1 := by omega
  have h2 : ¬ 4096 < room := by omega
  have HD := Lib.hid hd
  have HNM := Lib.hid hnm
  clear hd hnm hr
  unfold ptr
  go_enter Try.func54, Try.ntmps54
  go_wp2_with fail
  refine bodyPost_ret (v := .tuple #[ptr w.heap.size, .int .i64 0]) (by simp [results, Try.results54, go_sem, *]; rfl) rfl ?_
  refine ⟨rfl, fun k => if k < w.heap.size then col k else if k = w.heap.size then c + 3 else 0, ⟨.slice none 0 0, [], ?_⟩, ?_⟩
  · have kb := (Below.refl w.heap.size w).alloc (Nat.le_refl _) (.cells (rcacheC db (CS.new s.d room) (.slice none 0 0)) 74 (0, 0))
    obtain ⟨t, hd, e⟩ := HD.out
    have hext : Ext w.heap.size col (fun k => if k < w.heap.size then col k else if k = w.heap.size then c + 3 else 0) := fun i hi => by show (if i < w.heap.size then col i else if i = w.heap.size then c + 3 else 0) = col i; rw [if_pos hi]
    exact ⟨block_new _ _, by simp, ⟨t, hd.keep (fun i hi _ => kb.block i hi) hext kb.size, e⟩, rfl, SlAt.nil _ _ _ _ _, fun p hp => by simp at hp⟩
  · refine ⟨fun i hi => by show (if i < w.heap.size then col i else if i = w.heap.size then c + 3 else 0) = col i; rw [if_pos hi], Chg.of_below ((Below.refl _ _).alloc (Nat.le_refl _) _), fun i hi => ?_⟩
    have : w.heap.size + 1 ≤ i := by simpa using hi
    show (if i < w.heap.size then col i else if i = w.heap.size then c + 3 else 0) = 0
    rw [if_neg (by omega), if_neg (by omega)]
end
end Go.Proofs.Ytjjgihaikcnjgaa
