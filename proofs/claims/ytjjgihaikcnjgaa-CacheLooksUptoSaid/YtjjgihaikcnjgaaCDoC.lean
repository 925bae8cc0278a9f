/-
  A call of the laws: Put.
-/
import Derived.Test.YtjjgihaikcnjgaaCDoA
import Derived.Test.YtjjgihaikcnjgaaCDoB
namespace Go.Proofs.Ytjjgihaikcnjgaa
open Go.RowKit Go.Maps
set_option linter.unusedSimpArgs false
set_option linter.unusedVariables false
set_option maxRecDepth 100000

section
variable {w : World} {col : Nat → Nat} {b0 cb db rb xb k : Nat} {s : CS}
theorem RCacheAt.size_cell {W : World} {col' : Nat → Nat} {t : CS} (h : RCacheAt W col' 10 rb xb t) : W.cell? ⟨xb, 0, none⟩ = some (.int .i64 t.d.size) := by
  obtain ⟨fv, fs, h⟩ := h
  obtain ⟨t', ⟨pa, pcap, qa, qn, qcap, qs, hd⟩, ed⟩ := h.disk
  have d0 := hd.size
  have e0 : t'.size = t.d.size := by rw [← ed]; rfl
  rw [e0] at d0
  exact d0
set_option maxHeartbeats 16000000 in
theorem does_put (D : Duo w col b0 cb db rb xb s s) (hnm : Norm w col) (G : Doing s k) (hk : k ≤ 262000) (o : OpC) (ho : o.Fine) (hkd : o.kind = 3) :
    Calls Try.prog 28 #[ptr b0, opv o] w fun e w' => DoesTells w col b0 cb db rb xb (s.step o) e w' := by
  obtain ⟨kind, osec, ofill, oshort, oord⟩ := o
  simp only at hkd
  subst hkd
  have hstep : CS.step s ⟨3, osec, ofill, oshort, oord⟩ = (s.put osec (rep (putLen s.d.size oshort) ofill) oord).2 := by unfold CS.step; simp
  rw [hstep]
  have HG := Lib.hid G
  have HO := Lib.hid ho
  have HP : Hid (s.d.pending.length ≤ 1073690000) := by have := G.pend; show _ ≤ _; omega
  obtain ⟨col1, hO1, D1, F1⟩ := D.boxed hnm ⟨3, osec, ofill, oshort, oord⟩
  have HST : Hid (∀ W col', Free col1 col' (w.alloc (opC ⟨3, osec, ofill, oshort, oord⟩)) W → Stand W b0 cb db rb xb w.heap.size ⟨3, osec, ofill, oshort, oord⟩) := fun W col' k => D1.stand.free D1.color hO1 k
  have st1 := D1.stand
  have HD1 := Lib.hid D1
  have HF1 := Lib.hid F1
  have HN1 := Lib.hid F1.norm
  have hb0 := D1.lt
  obtain ⟨c0, c1, c2, c3, o1, o2, o3, o4⟩ := st1
  clear D hnm G ho hstep D1 F1 hO1
  unfold opv
  unfold opC at *
  unfold ptr at *
  simp only at *
  go_enter Try.func28, Try.ntmps28
  go_wp2_with fail
  generalize w.alloc (.cells #[.int .i64 3, .int .i64 osec, .int .u8 ofill, .int .i64 oshort, .int .u64 oord] 31) = W1 at *
  generalize w.heap.size = O at *
  have s0 := HG.out.ok.d.size0
  have s1 := HG.out.ok.d.size1
  have m3 := tmod_two oshort
  have HPK := Lib.hid (put_keeps HG.out.ok osec (rep (putLen s.d.size oshort) ofill) oord HO.out.order)
  have hNe : ((putLen s.d.size oshort : Nat) : Int) = s.d.size + Int.tmod oshort 2 := by unfold putLen; omega
  have hNb : putLen s.d.size oshort ≤ 1048576 := by omega
  have HSZ : Hid (∀ W col' s' t', Duo W col' b0 cb db rb xb s' t' → t'.d.size = s.d.size → W.cell? ⟨xb, 0, none⟩ = some (.int .i64 s.d.size)) := fun W col' s' t' h e => by rw [← e]; exact h.ref.size_cell
  generalize hpl : putLen s.d.size oshort = N at *
  have HPL := Lib.hid hpl
  clear hpl
  generalize hsz : s.d.size = sz at *
  have hw2 : IntKind.i64.wrap (oshort.tmod 2) = oshort.tmod 2 := IntWalk.i64_in _ (by omega)
  have hw1 : IntKind.i64.wrap (sz + oshort.tmod 2) = (N : Int) := by rw [← hNe]; exact IntWalk.i64_in _ (by omega)
  have HSZE := Lib.hid hsz
  clear hsz hNe m3
  go_region_held3 (fun W => W.cell? ⟨b0, 1, none⟩ = some (.pointer (some ⟨xb, 0, none⟩)) ∧ W.cell? ⟨O, 2, none⟩ = some (.int .u8 ofill) ∧ W.cell? ⟨O, 3, none⟩ = some (.int .i64 oshort) ∧ W.cell? ⟨xb, 0, none⟩ = some (.int .i64 sz)) (first | exact (fun h z => ⟨h.c1, h.o2, h.o3, z⟩) (HST.out _ _ (Free.below HN1.out (by ((repeat (first | with_reducible exact Bl.refl _ | with_reducible exact k5 | with_reducible refine Bl.alloc ?_ _ | with_reducible refine Bl.drew ?_)); done)))) (HSZ.out _ _ _ _ (HD1.out.below (by ((repeat (first | with_reducible exact Bl.refl _ | with_reducible exact k5 | with_reducible refine Bl.alloc ?_ _ | with_reducible refine Bl.drew ?_)); done))) HSZE.out)) ((first | ((go_at_call 15; refine (fill_any _ col1 (HN1.out.grow (bl_size (by ((repeat (first | with_reducible exact Bl.refl _ | with_reducible exact k5 | with_reducible refine Bl.alloc ?_ _ | with_reducible refine Bl.drew ?_)); done)))) N ofill hNb HO.out.fill).mono ?_; rintro e w5 ⟨⟨a5, cap5, rfl, hs5⟩, k5r⟩; (have k5 : Bl W1 w5 := Bl.trans (by ((repeat (first | with_reducible exact Bl.refl _ | with_reducible exact k5 | with_reducible refine Bl.alloc ?_ _ | with_reducible refine Bl.drew ?_)); done)) k5r)))))
  have HF5 : Hid (Free col1 col1 W1 w5) := Free.below HN1.out k5
  have HD5 := Lib.hid (HD1.out.below k5)
  have HS5 := Lib.hid hs5
  obtain ⟨-, d1, d2, d3, p1, p2, p3, p4⟩ := HST.out _ _ HF5.out
  simp only at p1 p2 p3 p4
  clear k5 k5r hs5 c0 c1 c2 c3 o1 o2 o3 o4
  go_wp2_with fail
  go_region_held3 (fun W => W.cell? ⟨b0, 2, none⟩ = some (.pointer (some ⟨cb, 0, none⟩)) ∧ W.cell? ⟨O, 1, none⟩ = some (.int .i64 osec) ∧ W.cell? ⟨O, 4, none⟩ = some (.int .u64 oord)) (first | exact (fun h => ⟨h.c2, h.o1, h.o4⟩) (HST.out _ _ (F6.trans (Free.below F6.norm (by ((repeat (first | with_reducible exact Bl.refl _ | with_reducible refine Bl.alloc ?_ _ | with_reducible refine Bl.drew ?_)); done))))) | exact (fun h => ⟨h.c2, h.o1, h.o4⟩) (HST.out _ _ (HF5.out.trans (Free.below HF5.out.norm (by ((repeat (first | with_reducible exact Bl.refl _ | with_reducible refine Bl.alloc ?_ _ | with_reducible refine Bl.drew ?_)); done)))))) ((first | (go_at_call 14; refine (put_law ((HD5.out.below (by ((repeat (first | with_reducible exact Bl.refl _ | with_reducible refine Bl.alloc ?_ _ | with_reducible refine Bl.drew ?_)); done))).cache) (by omega) (HF5.out.norm.grow (bl_size (by ((repeat (first | with_reducible exact Bl.refl _ | with_reducible refine Bl.alloc ?_ _ | with_reducible refine Bl.drew ?_)); done)))) HG.out.ok HP.out osec HO.out.sector _ (rep N ofill) oord (by rw [rep_len]; exact (HS5.out.below (by ((repeat (first | with_reducible exact Bl.refl _ | with_reducible refine Bl.alloc ?_ _ | with_reducible refine Bl.drew ?_)); done))).rd)).mono ?_; rintro e w6 ⟨rfl, col6, h6, k6, -⟩; (have F6 : Free col1 col6 W1 w6 := (HF5.out.trans (Free.below HF5.out.norm (by ((repeat (first | with_reducible exact Bl.refl _ | with_reducible refine Bl.alloc ?_ _ | with_reducible refine Bl.drew ?_)); done)))).trans (k6.free (by omega))); (have D6 := (HD5.out.below (by ((repeat (first | with_reducible exact Bl.refl _ | with_reducible refine Bl.alloc ?_ _ | with_reducible refine Bl.drew ?_)); done))).stepC k6 h6); (have S6 := k6.sl (by omega) (SlAt.below HS5.out (by ((repeat (first | with_reducible exact Bl.refl _ | with_reducible refine Bl.alloc ?_ _ | with_reducible refine Bl.drew ?_)); done)))))))
  have HF6 := Lib.hid F6
  have HD6 := Lib.hid D6
  have HS6 := Lib.hid S6
  clear d1 d2 d3 p1 p2 p3 p4 F6 D6 S6 h6 k6 HS5 HD5 HF5
  obtain ⟨-, d1, d2, d3, p1, p2, p3, p4⟩ := HST.out _ _ HF6.out
  have dx := HSZ.out _ _ _ _ HD6.out HSZE.out
  simp only at p1 p2 p3 p4
  go_wp2_with fail
  go_region_held3 (fun W => W.cell? ⟨b0, 1, none⟩ = some (.pointer (some ⟨xb, 0, none⟩)) ∧ W.cell? ⟨b0, 3, none⟩ = some (.pointer (some ⟨rb, 0, none⟩)) ∧ W.cell? ⟨O, 1, none⟩ = some (.int .i64 osec) ∧ W.cell? ⟨O, 2, none⟩ = some (.int .u8 ofill) ∧ W.cell? ⟨O, 3, none⟩ = some (.int .i64 oshort) ∧ W.cell? ⟨O, 4, none⟩ = some (.int .u64 oord) ∧ W.cell? ⟨xb, 0, none⟩ = some (.int .i64 sz)) (first | exact (fun h z => ⟨h.c1, h.c3, h.o1, h.o2, h.o3, h.o4, z⟩) (HST.out _ _ (F8.trans (Free.below F8.norm (by ((repeat (first | with_reducible exact Bl.refl _ | with_reducible refine Bl.alloc ?_ _ | with_reducible refine Bl.drew ?_)); done))))) (HSZ.out _ _ _ _ (D8.below (by ((repeat (first | with_reducible exact Bl.refl _ | with_reducible refine Bl.alloc ?_ _ | with_reducible refine Bl.drew ?_)); done))) (HPK.out.size.trans HSZE.out)) | exact (fun h z => ⟨h.c1, h.c3, h.o1, h.o2, h.o3, h.o4, z⟩) (HST.out _ _ (HF6.out.trans (Free.below HF6.out.norm (by ((repeat (first | with_reducible exact Bl.refl _ | with_reducible exact k7 | with_reducible refine Bl.alloc ?_ _ | with_reducible refine Bl.drew ?_)); done))))) (HSZ.out _ _ _ _ (HD6.out.below (by ((repeat (first | with_reducible exact Bl.refl _ | with_reducible exact k7 | with_reducible refine Bl.alloc ?_ _ | with_reducible refine Bl.drew ?_)); done))) HSZE.out)) ((first | (go_at_call 15; refine (fill_any _ col6 (HF6.out.norm.grow (bl_size (by ((repeat (first | with_reducible exact Bl.refl _ | with_reducible exact k7 | with_reducible refine Bl.alloc ?_ _ | with_reducible refine Bl.drew ?_)); done)))) N ofill hNb HO.out.fill).mono ?_; rintro e w7 ⟨⟨a7, cap7, rfl, hs7⟩, k7r⟩; (have k7 : Bl w6 w7 := Bl.trans (by ((repeat (first | with_reducible exact Bl.refl _ | with_reducible exact k7 | with_reducible refine Bl.alloc ?_ _ | with_reducible refine Bl.drew ?_)); done)) k7r)) | (go_at_call 58; refine (rput_law ((HD6.out.below (by ((repeat (first | with_reducible exact Bl.refl _ | with_reducible exact k7 | with_reducible refine Bl.alloc ?_ _ | with_reducible refine Bl.drew ?_)); done))).ref) (by omega) (HF6.out.norm.grow (bl_size (by ((repeat (first | with_reducible exact Bl.refl _ | with_reducible exact k7 | with_reducible refine Bl.alloc ?_ _ | with_reducible refine Bl.drew ?_)); done)))) HG.out.ok HP.out osec _ (rep N ofill) oord HO.out.order (by rw [rep_len]; exact (hs7.below (by ((repeat (first | with_reducible exact Bl.refl _ | with_reducible refine Bl.alloc ?_ _ | with_reducible refine Bl.drew ?_)); done))).rd)).mono ?_; rintro e w8 ⟨rfl, col8, h8, k8⟩; (have F8 : Free col1 col8 W1 w8 := (HF6.out.trans (Free.below HF6.out.norm (by ((repeat (first | with_reducible exact Bl.refl _ | with_reducible exact k7 | with_reducible refine Bl.alloc ?_ _ | with_reducible refine Bl.drew ?_)); done)))).trans (k8.free (by omega))); (have D8 := (HD6.out.below (by ((repeat (first | with_reducible exact Bl.refl _ | with_reducible exact k7 | with_reducible refine Bl.alloc ?_ _ | with_reducible refine Bl.drew ?_)); done))).stepR k8 h8); (have S8 := k8.sl (by omega) (SlAt.below HS6.out (by ((repeat (first | with_reducible exact Bl.refl _ | with_reducible exact k7 | with_reducible refine Bl.alloc ?_ _ | with_reducible refine Bl.drew ?_)); done)))))))
  have HF8 := Lib.hid F8
  have HD8 := Lib.hid D8
  have HS8 := Lib.hid S8
  clear d1 d2 d3 p1 p2 p3 p4 dx F8 D8 S8 h8 k8 hs7 k7 k7r HS6 HD6 HF6
  obtain ⟨-, -, -, -, -, p2, -, -⟩ := HST.out _ _ HF8.out
  simp only at p2
  go_wp2_with fail
  refine (fill_any w8 col8 HF8.out.norm N ofill hNb HO.out.fill).mono ?_
  rintro e w9 ⟨⟨a9, cap9, rfl, hs9⟩, k9⟩
  have HF9 := Lib.hid (HF8.out.trans (Free.below HF8.out.norm k9))
  have HD9 := Lib.hid (HD8.out.below k9)
  have HS9 := Lib.hid (HS8.out.below k9)
  have HR9 := Lib.hid hs9.rd
  clear k9 hs9 HF8 HD8 HS8 p2
  go_wp2_with fail
  refine (same_any _ _ _ _ _ (rep N ofill) (by rw [rep_len]; exact HS9.out.rd) (by rw [rep_len]; exact HR9.out)).mono ?_
  rintro e w10 ⟨rfl, rfl⟩
  clear HR9
  go_wp2_with fail
  have HBL : Hid ((bcells (rep N ofill)).length = N) := by show _ = _; simp
  have HBU : Hid (∀ u ∈ bcells (rep N ofill), ∃ x, u = Value.int .u8 x) := fun u hu => by
    unfold bcells at hu
    obtain ⟨x, _, rfl⟩ := List.mem_map.1 hu
    exact ⟨x, rfl⟩
  generalize bcells (rep N ofill) = X0 at *
  go_loopw [19, 172] (fun _ v wr => ∃ (i : Nat) (XS : List Value), i ≤ N ∧ v = .int .i64 i ∧ Hid (XS.length = N) ∧ Hid (∀ u ∈ XS, ∃ x, u = Value.int .u8 x) ∧ Hid (SlAt wr (Nil0 col8) 5 1 (.slice a5 N cap5) N XS) ∧ Hid (Chg (Nil0 col8) w9 wr)) (fun _ i _ => N - (intOf i).toNat)
  case atStart => exact ⟨0, X0, Nat.zero_le _, rfl, HBL.out, HBU.out, HS9.out, Chg.refl _ _⟩
  case round =>
    obtain ⟨i, XS, hi, rfl, hxl, hxu, hsl, hch⟩ := hrel
    have j0 : (0 : Int) ≤ (i : Int) := by omega
    have j9 : (i : Int) ≤ 1048576 := by omega
    by_cases hin : i < N
    · have j1 : (i : Int) < (N : Int) := by omega
      have hix : i < XS.length := by rw [hxl.out]; exact hin
      obtain ⟨g, off, rfl, hmx, hg, hc⟩ := hsl.out.rd.get (by omega)
      have q0 := hc i _ (List.getElem?_eq_getElem hix)
      obtain ⟨x, ex⟩ := hxu.out _ (List.getElem_mem hix)
      rw [ex] at q0
      obtain ⟨-, z0, hgo, -⟩ := hsl.out.set (i := i) hix (.int .u8 0)
      have HGO := Lib.hid hgo
      have HIX := Lib.hid hix
      clear hc hmx hgo ex hix
      go_wp2_with fail
      go_roundw
      case rel => exact ⟨i + 1, _, by omega, by go_num, by show _ = _; rw [List.length_set]; exact hxl.out, fun u hu => by
          rcases List.mem_or_eq_of_mem_set hu with hu | rfl
          · exact hxu.out u hu
          · exact ⟨_, rfl⟩, (hsl.out.set (i := i) HIX.out _).1, hch.out.setCell _ _ (fun _ => HGO.out)⟩
      case measure => simp [intOf]; omega
    · obtain rfl : i = N := by omega
      go_wp2_with fail
      go_ret
      rw [HSZE.out, HPL.out]
      exact ⟨rfl, col8, HF1.out.trans (HF9.out.trans (Free.own HF9.out.norm hch.out (fun i e => e))), HD9.out.own hch.out (fun i e => e)⟩
end
end Go.Proofs.Ytjjgihaikcnjgaa
/-
  CacheDoes and CacheLooks: the walks.
-/
namespace Go.Proofs.Ytjjgihaikcnjgaa
open Go.RowKit Go.Maps
set_option linter.unusedSimpArgs false
set_option linter.unusedVariables false
set_option maxRecDepth 100000

section
variable {w : World} {col : Nat → Nat} {b0 cb db rb xb k : Nat} {s : CS}
theorem does_any (D : Duo w col b0 cb db rb xb s s) (hnm : Norm w col) (G : Doing s k) (hk : k ≤ 262000) (o : OpC) (ho : o.Fine) :
    Calls Try.prog 28 #[ptr b0, .agg #[.int .i64 o.kind, .int .i64 o.sector, .int .u8 o.fill, .int .i64 o.short, .int .u64 o.order]] w fun e w' => DoesTells w col b0 cb db rb xb (s.step o) e w' := by
  by_cases h0 : o.kind = 0
  · exact does_get D hnm G hk o ho h0
  by_cases h1 : o.kind = 1
  · exact does_pin D hnm G hk o ho h1
  by_cases h2 : o.kind = 2
  · exact does_unpin D hnm G hk o ho h2
  by_cases h3 : o.kind = 3
  · exact does_put D hnm G hk o ho h3
  by_cases h4 : o.kind = 4
  · exact does_upto D hnm G hk o ho h4
  by_cases h5 : o.kind = 5
  · exact does_sync D hnm G hk o ho h5
  by_cases h6 : o.kind = 6
  · exact does_drop D hnm G hk o ho h6
  by_cases h7 : o.kind = 7
  · exact does_frames D hnm G hk o ho h7
  by_cases h8 : o.kind = 8
  · exact does_counts D hnm G hk o ho h8
  exact does_none D hnm o (fun i e0 e8 e => by omega)
theorem Duo.counts (h : Duo w col b0 cb db rb xb s s) : w.cell? ⟨b0, 2, none⟩ = some (.pointer (some ⟨cb, 0, none⟩)) ∧ w.cell? ⟨b0, 3, none⟩ = some (.pointer (some ⟨rb, 0, none⟩)) ∧ w.cell? ⟨rb, 3, none⟩ = some (.int .i64 s.hits) ∧ w.cell? ⟨rb, 4, none⟩ = some (.int .i64 s.misses) ∧ w.cell? ⟨rb, 5, none⟩ = some (.int .i64 s.writes) ∧ w.cell? ⟨rb, 6, none⟩ = some (.int .i64 s.gone) := by
  obtain ⟨-, -, d2, d3⟩ := h.cells
  obtain ⟨fv, fs, hR⟩ := h.ref
  obtain ⟨-, -, -, r3, r4, r5, r6⟩ := cells_r hR.block
  exact ⟨d2, d3, r3, r4, r5, r6⟩
theorem Duo.cblock (h : Duo w col b0 cb db rb xb s s) : ∃ r m, w.heap[cb]? = some (.cells (cacheC db r m s) 58 (0, 0)) := by
  obtain ⟨r, m, ns, hC⟩ := h.cache
  exact ⟨r, m, hC.block⟩
theorem counts_law (h : Duo w col b0 cb db rb xb s s) : Calls Try.prog 25 #[ptr cb] w fun e w' => e = .returned (.agg #[.int .i64 s.hits, .int .i64 s.misses, .int .i64 s.writes, .int .i64 s.gone]) ∧ Below w.heap.size w w' := by
  obtain ⟨r, m, hB⟩ := h.cblock
  exact counts_any hB
end
/-- what a law's world is beside the old one -/
structure Env3 (W : World) (col : Nat → Nat) (w : World) : Prop where
  norm : Norm w col
  old : ∀ i, i < W.heap.size → col i = 30
  bel : Below W.heap.size W w
theorem Env3.free {W w w' : World} {col col' : Nat → Nat} (h : Env3 W col w) (k : Free col col' w w') : Env3 W col' w' :=
  ⟨k.norm, fun i hi => (k.ext i (Nat.lt_of_lt_of_le hi h.bel.size)).trans (h.old i hi), h.bel.trans (k.chg.below h.bel.size (fun i hi e => by have := h.old i hi; omega))⟩
theorem Env3.below {W w w' : World} {col : Nat → Nat} (h : Env3 W col w) (k : Below w.heap.size w w') : Env3 W col w' := h.free (Free.below h.norm k)
set_option maxHeartbeats 16000000 in
theorem doeslaw_any (w : World) (v : Value) (x : Scr) (hx : ScrAt w v x) : Calls Try.prog 7 #[v] w fun e w' => e = .returned (.bool true) ∧ Below w.heap.size w w' := by
  obtain ⟨a, cap, rfl, hlen, hfine, hin⟩ := hx
  obtain ⟨size, sectors, frames, l⟩ := x
  simp only at *
  have B1 : Below w.heap.size w (w.alloc (.cells #[.int .i64 size, .int .i64 sectors, .int .i64 frames, .slice a l.length cap] 24)) := (Below.refl _ _).alloc (Nat.le_refl _) _
  have b1 : (w.alloc (.cells #[.int .i64 size, .int .i64 sectors, .int .i64 frames, .slice a l.length cap] 24)).heap[w.heap.size]? = some (.cells #[.int .i64 size, .int .i64 sectors, .int .i64 frames, .slice a l.length cap] 24 (0, 0)) := block_new _ _
  have HLEN := Lib.hid hlen
  have HFINE := Lib.hid hfine
  unfold scr
  go_enter Try.func7, Try.ntmps7
  go_wp2_with fail
  generalize hW1 : w.alloc (.cells #[.int .i64 size, .int .i64 sectors, .int .i64 frames, .slice a l.length cap] 24) = W1 at *
  generalize hD : w.heap.size = D at *
  have hDl : D < W1.heap.size := lt_of_block b1
  have HIN : Hid (0 < l.length → ∃ g off, a = some ⟨g, off, none⟩ ∧ ∀ W, Below W1.heap.size W1 W → ∀ i (h : i < l.length), OpCellsC W g (off + i * 5) l[i]) := fun h0 => by
    obtain ⟨g, off, e, hg, q⟩ := hin h0
    refine ⟨g, off, e, fun W k i h => ?_⟩
    have hg1 : g < W1.heap.size := by omega
    have cc : ∀ p, W.cell? ⟨g, p, none⟩ = w.cell? ⟨g, p, none⟩ := fun p => (k.cell (p := ⟨g, p, none⟩) hg1).trans (B1.cell (p := ⟨g, p, none⟩) hg)
    obtain ⟨q0, q1, q2, q3, q4⟩ := q i h
    exact ⟨(cc _).trans q0, (cc _).trans q1, (cc _).trans q2, (cc _).trans q3, (cc _).trans q4⟩
  have HBOX : Hid (∀ W, Below W1.heap.size W1 W → W.heap[D]? = some (.cells #[.int .i64 size, .int .i64 sectors, .int .i64 frames, .slice a l.length cap] 24 (0, 0))) := fun W k => below_keeps k b1 hDl
  have HB1 := Lib.hid B1
  have HDe := Lib.hid hD
  have HDL := Lib.hid hDl
  clear hin hW1 hD b1 hfine hlen B1
  refine (begin_any W1 size sectors frames a l.length cap).mono ?_
  rintro e w2 (⟨hf, hfr, b0, cb, db, rb, xb, col2, rfl, hD2, hN2, hO2, k2⟩ | ⟨hno, rfl, k2⟩)
  · have HE2 : Hid (Env3 W1 col2 w2) := ⟨hN2, hO2, k2⟩
    have HD2 := Lib.hid hD2
    have HG2 := Lib.hid (new_Doing hf hfr)
    have bx := HBOX.out w2 k2
    have c3 : w2.cell? ⟨D, 3, none⟩ = some (.slice a l.length cap) := by rw [cell_of_block bx]; rfl
    clear hN2 hO2 k2 hD2 hf hfr bx
    generalize CS.new (DS.new size sectors) frames = t0 at *
    unfold ptr at *
    go_wp2_with fail
    go_loopw [6, 22] (fun _ v wr => ∃ (i : Nat) (colr : Nat → Nat) (t : CS), i ≤ l.length ∧ v = .int .i64 i ∧ Hid (Duo wr colr b0 cb db rb xb t t) ∧ Hid (Doing t i) ∧ Hid (Env3 W1 colr wr)) (fun _ i _ => l.length - (intOf i).toNat)
    case atStart => exact ⟨0, col2, t0, Nat.zero_le _, rfl, HD2.out, HG2.out, HE2.out⟩
    case round =>
      obtain ⟨i, colr, t, hi, rfl, hD, hG, hE⟩ := hrel
      have hll := HLEN.out
      have j0 : (0 : Int) ≤ (i : Int) := by omega
      have j9 : (i : Int) ≤ 174762 := by omega
      clear c3
      by_cases hin : i < l.length
      · have j1 : (i : Int) < (l.length : Int) := by omega
        obtain ⟨g, off, rfl, hc⟩ := HIN.out (by omega)
        obtain ⟨q0, q1, q2, q3, q4⟩ := hc wr hE.out.bel i hin
        have HFI := Lib.hid (HFINE.out l[i] (List.getElem_mem hin))
        have hG1 : Hid (Doing (t.step l[i]) (i + 1)) := hG.out.step (by omega) _ (HFINE.out l[i] (List.getElem_mem hin))
        clear hc
        generalize l[i] = o at *
        go_wp2_with fail
        have ka : Below wr.heap.size wr (wr.alloc (.cells #[.int .i64 o.kind, .int .i64 o.sector, .int .u8 o.fill, .int .i64 o.short, .int .u64 o.order] 31)) := (Below.refl _ _).alloc (Nat.le_refl _) _
        refine (does_any (hD.out.below ka) (hE.out.norm.grow ka.size) hG.out (by omega) o HFI.out).mono ?_
        rintro e w5 ⟨rfl, col5, f5, d5⟩
        have HE5 := Lib.hid ((hE.out.below ka).free f5)
        have HD5 := Lib.hid d5
        clear f5 d5 ka q0 q1 q2 q3 q4
        go_wp2_with fail
        go_roundw
        case rel => exact ⟨i + 1, col5, t.step o, by omega, by go_num, HD5.out, hG1.out, HE5.out⟩
        case measure => simp [intOf]; omega
      · obtain rfl : i = l.length := by omega
        obtain ⟨r2, r3, r4, r5, r6, r7⟩ := hD.out.counts
        have hb0 := hD.out.lt
        go_wp2_with fail
        go_region_held3 (fun W => W.cell? ⟨b0, 2, none⟩ = some (.pointer (some ⟨cb, 0, none⟩)) ∧ W.cell? ⟨b0, 3, none⟩ = some (.pointer (some ⟨rb, 0, none⟩)) ∧ W.cell? ⟨rb, 3, none⟩ = some (.int .i64 t.hits) ∧ W.cell? ⟨rb, 4, none⟩ = some (.int .i64 t.misses) ∧ W.cell? ⟨rb, 5, none⟩ = some (.int .i64 t.writes) ∧ W.cell? ⟨rb, 6, none⟩ = some (.int .i64 t.gone)) (first | exact (d7.below (by ((repeat (first | with_reducible exact Bl.refl _ | with_reducible refine Bl.alloc ?_ _ | with_reducible refine Bl.drew ?_)); done))).counts | exact (d6.below (by ((repeat (first | with_reducible exact Bl.refl _ | with_reducible refine Bl.alloc ?_ _ | with_reducible refine Bl.drew ?_)); done))).counts | exact (d5.below (by ((repeat (first | with_reducible exact Bl.refl _ | with_reducible refine Bl.alloc ?_ _ | with_reducible refine Bl.drew ?_)); done))).counts | exact (hD.out.below (by ((repeat (first | with_reducible exact Bl.refl _ | with_reducible refine Bl.alloc ?_ _ | with_reducible refine Bl.drew ?_)); done))).counts) ((first | (go_at_call 29; refine (bframes_any (hD.out.below (by ((repeat (first | with_reducible exact Bl.refl _ | with_reducible refine Bl.alloc ?_ _ | with_reducible refine Bl.drew ?_)); done))) (hE.out.norm.grow (bl_size (by ((repeat (first | with_reducible exact Bl.refl _ | with_reducible refine Bl.alloc ?_ _ | with_reducible refine Bl.drew ?_)); done)))) hG.out.ok).mono ?_; rintro e w5 ⟨rfl, f5r, d5⟩; (have e5 : Env3 W1 colr w5 := (hE.out.below (by ((repeat (first | with_reducible exact Bl.refl _ | with_reducible refine Bl.alloc ?_ _ | with_reducible refine Bl.drew ?_)); done))).free f5r)) | (go_at_call 30; refine (bpending_any (d5.below (by ((repeat (first | with_reducible exact Bl.refl _ | with_reducible refine Bl.alloc ?_ _ | with_reducible refine Bl.drew ?_)); done))) (e5.norm.grow (bl_size (by ((repeat (first | with_reducible exact Bl.refl _ | with_reducible refine Bl.alloc ?_ _ | with_reducible refine Bl.drew ?_)); done)))) hG.out.ok (by have := hG.out.pend; omega)).mono ?_; rintro e w6 ⟨rfl, f6r, d6⟩; (have e6 : Env3 W1 colr w6 := (e5.below (by ((repeat (first | with_reducible exact Bl.refl _ | with_reducible refine Bl.alloc ?_ _ | with_reducible refine Bl.drew ?_)); done))).free f6r)) | (go_at_call 25; refine (counts_law (d6.below (by ((repeat (first | with_reducible exact Bl.refl _ | with_reducible refine Bl.alloc ?_ _ | with_reducible refine Bl.drew ?_)); done)))).mono ?_; rintro e w7 ⟨rfl, k7r⟩; (have e7 : Env3 W1 colr w7 := e6.below (Bl.trans (by ((repeat (first | with_reducible exact Bl.refl _ | with_reducible refine Bl.alloc ?_ _ | with_reducible refine Bl.drew ?_)); done)) k7r)); (have d7 := d6.below (Bl.trans (by ((repeat (first | with_reducible exact Bl.refl _ | with_reducible refine Bl.alloc ?_ _ | with_reducible refine Bl.drew ?_)); done)) k7r)))))
        all_goals
          have HE7 := Lib.hid e7
          clear e5 e6 e7 d5 d6 d7
          go_wp2_with fail
          go_ret
          rw [HDe.out]
          exact ⟨rfl, HB1.out.trans (HE7.out.bel.mono (Nat.le_of_lt HDL.out))⟩
  · have K2 := Lib.hid k2
    clear k2 hno
    go_wp2_with fail
    go_ret
    rw [HDe.out]
    exact ⟨rfl, HB1.out.trans (K2.out.mono (Nat.le_of_lt HDL.out))⟩
set_option maxHeartbeats 16000000 in
theorem looks_any (w : World) (v : Value) (x : Scr) (hx : ScrAt w v x) : Calls Try.prog 8 #[v] w fun e w' => e = .returned (.bool true) ∧ Below w.heap.size w w' := by
  obtain ⟨a, cap, rfl, hlen, hfine, hin⟩ := hx
  obtain ⟨size, sectors, frames, l⟩ := x
  simp only at *
  have B1 : Below w.heap.size w (w.alloc (.cells #[.int .i64 size, .int .i64 sectors, .int .i64 frames, .slice a l.length cap] 24)) := (Below.refl _ _).alloc (Nat.le_refl _) _
  have b1 : (w.alloc (.cells #[.int .i64 size, .int .i64 sectors, .int .i64 frames, .slice a l.length cap] 24)).heap[w.heap.size]? = some (.cells #[.int .i64 size, .int .i64 sectors, .int .i64 frames, .slice a l.length cap] 24 (0, 0)) := block_new _ _
  have HLEN := Lib.hid hlen
  have HFINE := Lib.hid hfine
  unfold scr
  go_enter Try.func8, Try.ntmps8
  go_wp2_with fail
  generalize hW1 : w.alloc (.cells #[.int .i64 size, .int .i64 sectors, .int .i64 frames, .slice a l.length cap] 24) = W1 at *
  generalize hD : w.heap.size = D at *
  have hDl : D < W1.heap.size := lt_of_block b1
  have HIN : Hid (0 < l.length → ∃ g off, a = some ⟨g, off, none⟩ ∧ ∀ W, Below W1.heap.size W1 W → ∀ i (h : i < l.length), OpCellsC W g (off + i * 5) l[i]) := fun h0 => by
    obtain ⟨g, off, e, hg, q⟩ := hin h0
    refine ⟨g, off, e, fun W k i h => ?_⟩
    have hg1 : g < W1.heap.size := by omega
    have cc : ∀ p, W.cell? ⟨g, p, none⟩ = w.cell? ⟨g, p, none⟩ := fun p => (k.cell (p := ⟨g, p, none⟩) hg1).trans (B1.cell (p := ⟨g, p, none⟩) hg)
    obtain ⟨q0, q1, q2, q3, q4⟩ := q i h
    exact ⟨(cc _).trans q0, (cc _).trans q1, (cc _).trans q2, (cc _).trans q3, (cc _).trans q4⟩
  have HBOX : Hid (∀ W, Below W1.heap.size W1 W → W.heap[D]? = some (.cells #[.int .i64 size, .int .i64 sectors, .int .i64 frames, .slice a l.length cap] 24 (0, 0))) := fun W k => below_keeps k b1 hDl
  have HB1 := Lib.hid B1
  have HDe := Lib.hid hD
  have HDL := Lib.hid hDl
  clear hin hW1 hD b1 hfine hlen B1
  refine (begin_any W1 size sectors frames a l.length cap).mono ?_
  rintro e w2 (⟨hf, hfr, b0, cb, db, rb, xb, col2, rfl, hD2, hN2, hO2, k2⟩ | ⟨hno, rfl, k2⟩)
  · have HE2 : Hid (Env3 W1 col2 w2) := ⟨hN2, hO2, k2⟩
    have HD2 := Lib.hid hD2
    have HG2 := Lib.hid (new_Doing hf hfr)
    have bx := HBOX.out w2 k2
    have c3 : w2.cell? ⟨D, 3, none⟩ = some (.slice a l.length cap) := by rw [cell_of_block bx]; rfl
    clear hN2 hO2 k2 hD2 hf hfr bx
    generalize CS.new (DS.new size sectors) frames = t0 at *
    unfold ptr at *
    go_wp2_with fail
    go_loopw [6, 22] (fun _ v wr => ∃ (i : Nat) (colr : Nat → Nat) (t : CS), i ≤ l.length ∧ v = .int .i64 i ∧ Hid (Duo wr colr b0 cb db rb xb t t) ∧ Hid (Doing t i) ∧ Hid (Env3 W1 colr wr)) (fun _ i _ => l.length - (intOf i).toNat)
    case atStart => exact ⟨0, col2, t0, Nat.zero_le _, rfl, HD2.out, HG2.out, HE2.out⟩
    case round =>
      obtain ⟨i, colr, t, hi, rfl, hD, hG, hE⟩ := hrel
      have hll := HLEN.out
      have j0 : (0 : Int) ≤ (i : Int) := by omega
      have j9 : (i : Int) ≤ 174762 := by omega
      clear c3
      by_cases hin : i < l.length
      · have j1 : (i : Int) < (l.length : Int) := by omega
        obtain ⟨g, off, rfl, hc⟩ := HIN.out (by omega)
        obtain ⟨q0, q1, q2, q3, q4⟩ := hc wr hE.out.bel i hin
        have HFI := Lib.hid (HFINE.out l[i] (List.getElem_mem hin))
        have hG1 : Hid (Doing (t.step l[i]) (i + 1)) := hG.out.step (by omega) _ (HFINE.out l[i] (List.getElem_mem hin))
        clear hc
        generalize l[i] = o at *
        go_wp2_with fail
        have ka : Below wr.heap.size wr (wr.alloc (.cells #[.int .i64 o.kind, .int .i64 o.sector, .int .u8 o.fill, .int .i64 o.short, .int .u64 o.order] 31)) := (Below.refl _ _).alloc (Nat.le_refl _) _
        refine (does_any (hD.out.below ka) (hE.out.norm.grow ka.size) hG.out (by omega) o HFI.out).mono ?_
        rintro e w5 ⟨rfl, col5, f5, d5⟩
        have HE5 := Lib.hid ((hE.out.below ka).free f5)
        have HD5 := Lib.hid d5
        clear f5 d5 ka q0 q1 q2 q3 q4
        go_wp2_with fail
        refine (bframes_any HD5.out HE5.out.norm hG1.out.ok).mono ?_
        rintro e w6 ⟨rfl, f6, d6⟩
        have HE6 := Lib.hid (HE5.out.free f6)
        have HD6 := Lib.hid d6
        clear f6 d6 HD5 HE5
        go_wp2_with fail
        refine (bpending_any HD6.out HE6.out.norm hG1.out.ok (by have := hG1.out.pend; omega)).mono ?_
        rintro e w7 ⟨rfl, f7, d7⟩
        have HE7 := Lib.hid (HE6.out.free f7)
        have HD7 := Lib.hid d7
        clear f7 d7 HD6 HE6
        go_wp2_with fail
        go_roundw
        case rel => exact ⟨i + 1, col5, t.step o, by omega, by go_num, HD7.out, hG1.out, HE7.out⟩
        case measure => simp [intOf]; omega
      · obtain rfl : i = l.length := by omega
        go_wp2_with fail
        go_ret
        rw [HDe.out]
        exact ⟨rfl, HB1.out.trans (hE.out.bel.mono (Nat.le_of_lt HDL.out))⟩
  · have K2 := Lib.hid k2
    clear k2 hno
    go_wp2_with fail
    go_ret
    rw [HDe.out]
    exact ⟨rfl, HB1.out.trans (K2.out.mono (Nat.le_of_lt HDL.out))⟩
end Go.Proofs.Ytjjgihaikcnjgaa
