/-
  The way up from a leaf that is the root.
-/
import Derived.Test.YthmimbmlcihkaaaGreatT8
namespace Go.Proofs.YthmimbmlcihkaaaGreat
open Go.RowKit Go.Shelf
set_option linter.unusedSimpArgs false
set_option linter.unusedVariables false
set_option maxRecDepth 100000
attribute [local go_sem] Oper.semAt_some

theorem KnotOn.chg {own own2 : Nat → Prop} {w w' : World} {b : Nat} {n : ND} {ps : List Nat} {sector : Int} (h : KnotOn own w b n ps sector) (k : Chg own2 w w') (hd : ∀ i, own i → ¬ own2 i) (hb : ¬ own2 b) : KnotOn own w' b n ps sector := by
  obtain ⟨ka, kc, va, vc, ia, ic, pa, pc, h1, h2, h3⟩ := h
  exact ⟨ka, kc, va, vc, ia, ic, pa, pc, k.keeps h1 hb, h2.chg k hd, h3.chg k hd⟩
section
variable {w : World} {tb kb cb : Nat} {size : Int} {rv : Value} {n : ND} {ps : List Nat} {sector : Int}
set_option maxHeartbeats 4000000 in
theorem up_leaf (h : TreeIn w tb size .nilIface kb) {a : Option Addr} {cap : Nat} (hc : ChangeIn w cb tb (.slice a 0 cap)) (own : Nat → Prop) (v : Value) (hv : NodeAt w own v n) (hlf : n.leaf = true) (hkd : n.kids = []) (sm : n.Small) (hl : n.lens = true) (hfit : n.psize ≤ size) :
    Calls Tryz.prog 29 #[ptr cb, v] w fun e w' => (∃ tb' kb', e = .returned (.tuple #[ptr tb', .int .i64 0]) ∧ TreeIn w' tb' size .nilIface kb' ∧ KnotIn w' kb' n [] (-1)) ∧ Bl w w' := by
  have en : ({ n with kids := upTo 0 } : ND) = n := by obtain ⟨x1, x2, x3, x4⟩ := n; simp only at hkd; subst hkd; rfl
  have hv' := hv
  obtain ⟨ka, kc, va, vc, ia, ic, rfl, hN⟩ := hv
  have HV : Hid (NodeAt w (fun k => k < w.heap.size) (nodeV n ka kc va vc ia ic) n) := ⟨ka, kc, va, vc, ia, ic, rfl, hN.mono (fun k hk _ => hk)⟩
  have HT := Lib.hid h
  have HC := Lib.hid hc
  have EN := Lib.hid en
  have HFIT : Hid (decide (n.psize ≤ size) = true) := decide_eq_true hfit
  have hcl : cb < w.heap.size := lt_of_block hc
  have B4 : Bl w ((((w.alloc (.cells #[ptr cb] 68)).alloc (.cells (nbox n ka kc va vc ia ic) 61)).alloc (.cells #[.pointer none] 26)).alloc (.cells #[.int .i64 0] 27)) := ((((Bl.refl w).alloc _).alloc _).alloc _).alloc _
  have q0 : ((((w.alloc (.cells #[ptr cb] 68)).alloc (.cells (nbox n ka kc va vc ia ic) 61)).alloc (.cells #[.pointer none] 26)).alloc (.cells #[.int .i64 0] 27)).heap[w.heap.size]? = some (.cells #[ptr cb] 68 (0, 0)) := block_old _ (block_old _ (block_old _ (block_new _ _)))
  have q1 : ((((w.alloc (.cells #[ptr cb] 68)).alloc (.cells (nbox n ka kc va vc ia ic) 61)).alloc (.cells #[.pointer none] 26)).alloc (.cells #[.int .i64 0] 27)).heap[w.heap.size + 1]? = some (.cells (nbox n ka kc va vc ia ic) 61 (0, 0)) := block_old _ (block_old _ (block_new' _ (by simp)))
  have q2 : ((((w.alloc (.cells #[ptr cb] 68)).alloc (.cells (nbox n ka kc va vc ia ic) 61)).alloc (.cells #[.pointer none] 26)).alloc (.cells #[.int .i64 0] 27)).heap[w.heap.size + 2]? = some (.cells #[.pointer none] 26 (0, 0)) := block_old _ (block_new' _ (by simp))
  have q3 : ((((w.alloc (.cells #[ptr cb] 68)).alloc (.cells (nbox n ka kc va vc ia ic) 61)).alloc (.cells #[.pointer none] 26)).alloc (.cells #[.int .i64 0] 27)).heap[w.heap.size + 3]? = some (.cells #[.int .i64 0] 27 (0, 0)) := block_new' _ (by simp)
  unfold nodeV at *
  unfold nbox at *
  simp only [hlf, hkd, List.length_nil] at HV B4 q0 q1 q2 q3 ⊢
  clear h hc hv' hN en hfit
  unfold ptr at *
  refine (callsIn_wide (n := 9)).1 ?_
  refine callsIn_of_wp_marks Tryz.func29 rfl trivial ?_ rfl
  simp only [Tryz.ntmps29, List.size_toArray, List.length_cons, List.length_nil, Nat.reduceAdd, Nat.reduceSub, Array.replicate_succ, Array.replicate_zero, List.push_toArray, List.append_toArray, List.nil_append, List.cons_append]
  have HB4 := Lib.hid B4
  have Q0 := Lib.hid q0
  have Q1 := Lib.hid q1
  have Q2 := Lib.hid q2
  have Q3 := Lib.hid q3
  clear q0 q1 q2 q3 B4
  gi_wp2
  generalize (((w.alloc (.cells #[.pointer (some ⟨cb, 0, none⟩)] 68)).alloc (.cells #[.bool true, .slice ka n.keys.length kc, .slice va n.values.length vc, .slice ia 0 ic] 61)).alloc (.cells #[.pointer none] 26)).alloc (.cells #[.int .i64 0] 27) = W4 at *
  refine ⟨trivial, ?_⟩
  refine (callsIn_wide.2 (dirty_any W4 (fun k => k < w.heap.size) (fun _ => False) _ n none 0 [] (HV.out.below HB4.out) (SlAt.nil _ _ 57 1 none).rd (by simp))).mono ?_
  rintro e w5 ⟨kb5, rfl, hkb5, hk5, k5⟩
  rw [show ({ n with kids := upTo ([] : List Nat).length } : ND) = n from EN.out] at hk5
  have HK5 : Hid (KnotOn (fun k => k < w.heap.size ∨ (W4.heap.size ≤ k ∧ k < w5.heap.size)) w5 kb5 n [] (-1)) := hk5.mono (fun k hk e => by rcases e with e | e | e; exact Or.inl e; exact e.elim; exact Or.inr ⟨e, hk⟩)
  have K5 := Lib.hid k5
  have q0 := below_keeps k5 Q0.out (lt_of_block Q0.out)
  have c0 : w5.cell? ⟨w.heap.size, 0, none⟩ = some (.pointer (some ⟨cb, 0, none⟩)) := by rw [cell_of_block q0]; rfl
  have hC5 := HC.out.below (Bl.trans HB4.out k5)
  have c1 : w5.cell? ⟨cb, 1, none⟩ = some (.slice a 0 cap) := by rw [cell_of_block hC5]; rfl
  have hcl5 : cb < w5.heap.size := Nat.lt_of_lt_of_le hcl (Bl.trans HB4.out k5).size
  have hwl5 : w.heap.size < w5.heap.size := lt_of_block q0
  clear hk5 k5 q0 hC5
  unfold ptr at *
  have r0 : (w5.alloc (.cells #[.pointer (some ⟨kb5, 0, none⟩)] 57)).heap[w5.heap.size]? = some (.cells #[.pointer (some ⟨kb5, 0, none⟩)] 57 (0, 0)) := block_new _ _
  have kb : Bl w5 ((w5.alloc (.cells #[.pointer (some ⟨kb5, 0, none⟩)] 57)).alloc (.cells #[.slice a 0 cap] 69)) := ((Bl.refl w5).alloc _).alloc _
  have r1 : ((w5.alloc (.cells #[.pointer (some ⟨kb5, 0, none⟩)] 57)).alloc (.cells #[.slice a 0 cap] 69)).heap[w5.heap.size + 1]? = some (.cells #[.slice a 0 cap] 69 (0, 0)) := block_new' _ (by simp)
  have r0' : ((w5.alloc (.cells #[.pointer (some ⟨kb5, 0, none⟩)] 57)).alloc (.cells #[.slice a 0 cap] 69)).heap[w5.heap.size]? = some (.cells #[.pointer (some ⟨kb5, 0, none⟩)] 57 (0, 0)) := block_old _ r0
  have R0 := Lib.hid r0'
  have R1 := Lib.hid r1
  have KB := Lib.hid kb
  have hsz1 : (w5.alloc (.cells #[.pointer (some ⟨kb5, 0, none⟩)] 57)).heap.size = w5.heap.size + 1 := by simp
  have HSZ1 := Lib.hid hsz1
  clear r0 r1 r0' kb hsz1
  gi_wp2
  refine ⟨trivial, ?_⟩
  refine (backward_in _ _ trivial rfl a 0 cap _).mono ?_
  rintro e w6 ⟨rfl, rfl⟩
  rw [HSZ1.out]
  gi_wp2
  generalize (w5.alloc (.cells #[.pointer (some ⟨kb5, 0, none⟩)] 57)).alloc (.cells #[.slice a 0 cap] 69) = W0 at *
  have r1 := R1.out
  have hr1 := lt_of_block r1
  refine wpIn_rangeFunc_ownH rfl (by omega) (gf := 84) (lb := #[.pointer (some ⟨w5.heap.size + 1, 0, none⟩)]) rfl trivial (enters_of Tryz.func84 (by kernel_rfl) rfl)
    (back_stops0 Fence.wide (9 - 1) trivial rfl (w5.heap.size + 1) W0.heap.size a cap (fun x : Below' 0 => #[.int .i64 (x.1 : Int), .int .i64 0]) W0 hr1 (Nat.le_refl _) (by rw [cell_of_block r1]; rfl)) belowK_t (belowK_b (Nat.le_refl _)) (Below.refl _ _) (fun _ => rfl)
    (fun pre W => Below W0.heap.size W0 W)
    (fun cd pre W => False)
    ?oI ?oIx (Below.refl _ _)
    (fun x a' W => False)
    ?oA ?assign ?body ?done ?stop
  case oI => exact fun s A B row hs hg hr => ownFrom_below (β := Unit) (Nat.le_refl _) (Nat.le_refl _) () A B row hs hg hr
  case oIx => exact fun cd pre A B row hs hg hr => hs
  case oA => exact fun x a' u A B row hs hg hr => hs
  case assign => exact fun l pre x W K hs hK => absurd x.2 (by omega)
  case body => exact fun l pre x a' W h1 h2 h3 h4 h5 => h4.elim
  case stop => exact fun D cd pre W hD h1 h2 => h1.elim
  case done =>
    rintro D xs W hD - hbw hK
    have kW : Bl w W := Bl.trans (Bl.trans (Bl.trans HB4.out K5.out) KB.out) hbw
    have hsW := hbw.size
    have KW4 : Bl W4 W := Bl.trans (Bl.trans K5.out KB.out) hbw
    have q0 := below_keeps KW4 Q0.out (lt_of_block Q0.out)
    have q2 := below_keeps KW4 Q2.out (lt_of_block Q2.out)
    have q3 := below_keeps KW4 Q3.out (lt_of_block Q3.out)
    have r0 := below_keeps hbw R0.out (lt_of_block R0.out)
    have HTW := Lib.hid (HT.out.below kW)
    have hCW := HC.out.below kW
    have HKW := Lib.hid (HK5.out.below (Bl.trans KB.out hbw))
    have hcb : cb < W.heap.size := lt_of_block hCW
    have hM5 : w5.heap.size < W.heap.size := lt_of_block r0
    have hM : w.heap.size < W.heap.size := lt_of_block q0
    have KS : Hid (∀ X, Bl W X → X.cell? ⟨w.heap.size, 0, none⟩ = some (.pointer (some ⟨cb, 0, none⟩)) ∧ X.cell? ⟨cb, 0, none⟩ = some (.pointer (some ⟨tb, 0, none⟩)) ∧ X.cell? ⟨w5.heap.size, 0, none⟩ = some (.pointer (some ⟨kb5, 0, none⟩))) := fun X k => by
      have x0 := below_keeps k q0 hM
      have x1 := below_keeps k hCW hcb
      have x2 := below_keeps k r0 hM5
      refine ⟨?_, ?_, ?_⟩
      · rw [cell_of_block x0]; rfl
      · rw [cell_of_block x1]; rfl
      · rw [cell_of_block x2]; rfl
    have HWW := Lib.hid kW
    have Q2' := Lib.hid q2
    have Q3' := Lib.hid q3
    have HD := Lib.hid hD
    have HKD := Lib.hid hK
    clear kW KW4 q0 q2 q3 r0 hCW hK hD r1
    gi_wp2
    refine wpIn_wide.2 ?_
    go_region_held3 (fun X => X.cell? ⟨w.heap.size, 0, none⟩ = some (.pointer (some ⟨cb, 0, none⟩)) ∧ X.cell? ⟨cb, 0, none⟩ = some (.pointer (some ⟨tb, 0, none⟩)) ∧ X.cell? ⟨w5.heap.size, 0, none⟩ = some (.pointer (some ⟨kb5, 0, none⟩))) (first | exact KS.out _ (by ((repeat (first | with_reducible exact Bl.refl _ | with_reducible exact k7 | with_reducible refine Bl.alloc ?_ _ | with_reducible refine Bl.drew ?_)); done))) ((first | (go_at_call 61; refine (fits_any (HTW.out.below (by ((repeat (first | with_reducible exact Bl.refl _ | with_reducible exact k7 | with_reducible refine Bl.alloc ?_ _ | with_reducible refine Bl.drew ?_)); done))) (HKW.out.all.below (by ((repeat (first | with_reducible exact Bl.refl _ | with_reducible exact k7 | with_reducible refine Bl.alloc ?_ _ | with_reducible refine Bl.drew ?_)); done))) sm hl).mono ?_; rw [HFIT.out]; rintro e w7 ⟨rfl, k7r⟩; (have k7 : Bl W w7 := Bl.trans (by ((repeat (first | with_reducible exact Bl.refl _ | with_reducible exact k7 | with_reducible refine Bl.alloc ?_ _ | with_reducible refine Bl.drew ?_)); done)) k7r))))
    have HKW7 := Lib.hid (HKW.out.below k7)
    have HT7 := HTW.out.below k7
    obtain ⟨t0, t1, -⟩ := HT7.cells
    have q2 := below_keeps k7 Q2'.out (lt_of_block Q2'.out)
    have q3 := below_keeps k7 Q3'.out (lt_of_block Q3'.out)
    have hM2 : w.heap.size + 2 < w7.heap.size := lt_of_block q2
    have hM3 : w.heap.size + 3 < w7.heap.size := lt_of_block q3
    have x2 : w7.cell? ⟨w.heap.size + 2, 0, none⟩ = some (.pointer none) := by rw [cell_of_block q2]; rfl
    have x3 : w7.cell? ⟨w.heap.size + 3, 0, none⟩ = some (.int .i64 0) := by rw [cell_of_block q3]; rfl
    have f2 := free_of_block q2 0
    have f3 := free_of_block q3 0
    have htl : tb < w.heap.size := lt_of_block HT.out
    obtain ⟨s0, s1, s2⟩ := KS.out _ k7
    obtain ⟨ka', kc', va', vc', ia', ic', pa', pc', hblk, -, -⟩ := HKW7.out
    have l0 : w7.cell? ⟨kb5, 0, none⟩ = some (.bool true) := by rw [cell_of_block hblk]; show some (Value.bool n.leaf) = _; rw [hlf]
    have hw4 : w.heap.size + 4 ≤ w5.heap.size := by
      have e1 := K5.out.size
      have e2 := lt_of_block Q3.out
      omega
    have KT : Hid (∀ X, Chg (fun i => i = w.heap.size + 2 ∨ i = w.heap.size + 3) w7 X → X.cell? ⟨w.heap.size, 0, none⟩ = some (.pointer (some ⟨cb, 0, none⟩)) ∧ X.cell? ⟨cb, 0, none⟩ = some (.pointer (some ⟨tb, 0, none⟩)) ∧ X.cell? ⟨tb, 0, none⟩ = some (.int .i64 size) ∧ X.cell? ⟨tb, 1, none⟩ = some .nilIface ∧ X.cell? ⟨w5.heap.size, 0, none⟩ = some (.pointer (some ⟨kb5, 0, none⟩))) := fun X k =>
      ⟨k.cellOf s0 (fun e => by simp only at e; omega), k.cellOf s1 (fun e => by simp only at e; omega), k.cellOf t0 (fun e => by simp only at e; omega), k.cellOf t1 (fun e => by simp only at e; omega), k.cellOf s2 (fun e => by simp only at e; omega)⟩
    have HW7 := Lib.hid (Bl.trans HWW.out k7)
    have HKD7 := Lib.hid (below_keeps k7 HKD.out (lt_of_block HKD.out))
    have HQ2 := Lib.hid q2
    have HQ3 := Lib.hid q3
    clear hblk q2 q3 HT7 k7 k7r KS Q2' Q3' hM hM5 hcb
    gi_wp2
    refine wpIn_wide.2 ?_
    go_region_held3 (fun X => X.cell? ⟨w.heap.size, 0, none⟩ = some (.pointer (some ⟨cb, 0, none⟩)) ∧ X.cell? ⟨cb, 0, none⟩ = some (.pointer (some ⟨tb, 0, none⟩)) ∧ X.cell? ⟨tb, 0, none⟩ = some (.int .i64 size) ∧ X.cell? ⟨tb, 1, none⟩ = some .nilIface ∧ X.cell? ⟨w5.heap.size, 0, none⟩ = some (.pointer (some ⟨kb5, 0, none⟩))) (exact KT.out _ (by ((repeat (first | with_reducible exact Chg.refl _ _ | with_reducible refine Chg.drew ?_ | with_reducible refine Chg.alloc ?_ _ | with_reducible refine Chg.setCell ?_ _ _ (fun _ => Or.inl rfl) | with_reducible refine Chg.setCell ?_ _ _ (fun _ => Or.inr rfl))); done))) (fail)
    have hD7 : D < w7.heap.size := lt_of_block HKD7.out
    have hDW := HD.out
    have e1 := K5.out.size
    have e2 := KB.out.size
    have e3 := lt_of_block Q3.out
    have e4 := lt_of_block R0.out
    have hneD2 : D ≠ w.heap.size + 2 := by omega
    have hneD3 : D ≠ w.heap.size + 3 := by omega
    have kc1 : Chg (fun i => i = w.heap.size + 2 ∨ i = w.heap.size + 3) w7 ((((w7.setCell ⟨w.heap.size + 2, 0, none⟩ (.pointer (some ⟨w7.heap.size, 0, none⟩))).setCell ⟨w.heap.size + 3, 0, none⟩ (.int .i64 0)).alloc (.cells #[.int .i64 size, .nilIface, .pointer (some ⟨kb5, 0, none⟩)] 65)).drew) := (((((Chg.refl _ _).setCell _ _ (fun _ => Or.inl rfl)).setCell _ _ (fun _ => Or.inr rfl)).alloc _).drew)
    gi_wp2
    have hK' := kc1.keeps HKD7.out (fun e => by rcases e with e | e; exact hneD2 e; exact hneD3 e)
    have b2 : ((((w7.setCell ⟨w.heap.size + 2, 0, none⟩ (.pointer (some ⟨w7.heap.size, 0, none⟩))).setCell ⟨w.heap.size + 3, 0, none⟩ (.int .i64 0)).alloc (.cells #[.int .i64 size, .nilIface, .pointer (some ⟨kb5, 0, none⟩)] 65)).drew).heap[w.heap.size + 2]? = some (.cells #[.pointer (some ⟨w7.heap.size, 0, none⟩)] 26 (0, 0)) := block_old _ (block_set_other (block_set HQ2.out 0 (.pointer (some ⟨w7.heap.size, 0, none⟩))) _ _ (by simp))
    have b3 : ((((w7.setCell ⟨w.heap.size + 2, 0, none⟩ (.pointer (some ⟨w7.heap.size, 0, none⟩))).setCell ⟨w.heap.size + 3, 0, none⟩ (.int .i64 0)).alloc (.cells #[.int .i64 size, .nilIface, .pointer (some ⟨kb5, 0, none⟩)] 65)).drew).heap[w.heap.size + 3]? = some (.cells #[.int .i64 0] 27 (0, 0)) := block_old _ (block_set (block_set_other HQ3.out _ _ (by simp)) 0 (.int .i64 0))
    have bT : ((((w7.setCell ⟨w.heap.size + 2, 0, none⟩ (.pointer (some ⟨w7.heap.size, 0, none⟩))).setCell ⟨w.heap.size + 3, 0, none⟩ (.int .i64 0)).alloc (.cells #[.int .i64 size, .nilIface, .pointer (some ⟨kb5, 0, none⟩)] 65)).drew).heap[w7.heap.size]? = some (.cells #[.int .i64 size, .nilIface, .pointer (some ⟨kb5, 0, none⟩)] 65 (0, 0)) := block_new' _ (by simp)
    generalize (((w7.setCell ⟨w.heap.size + 2, 0, none⟩ (.pointer (some ⟨w7.heap.size, 0, none⟩))).setCell ⟨w.heap.size + 3, 0, none⟩ (.int .i64 0)).alloc (.cells #[.int .i64 size, .nilIface, .pointer (some ⟨kb5, 0, none⟩)] 65)).drew = Wf at *
    have kp : Chg (fun i => i = D) Wf (Wf.putObj D (.deferred none)) := ⟨rfl, rfl, rfl, by simp [World.putObj], fun k hk hn => World.putObj_heap_other (fun e => hn e)⟩
    have kall : Chg (fun i => i = w.heap.size + 2 ∨ i = w.heap.size + 3 ∨ i = D) w7 (Wf.putObj D (.deferred none)) := Chg.trans (kc1.mono (fun i _ e => by rcases e with e | e; exact Or.inl e; exact Or.inr (Or.inl e))) (kp.mono (fun i _ e => Or.inr (Or.inr e)))
    have p2 := kp.keeps b2 (fun e => hneD2 e.symm)
    have p3 := kp.keeps b3 (fun e => hneD3 e.symm)
    have pT := kp.keeps bT (fun e => by have e : w7.heap.size = D := e; omega)
    have r1 : (Wf.putObj D (.deferred none)).cell? ⟨w.heap.size + 1 + 1, 0, none⟩ = some (.pointer (some ⟨w7.heap.size, 0, none⟩)) := by rw [cell_of_block p2]; rfl
    have r2 : (Wf.putObj D (.deferred none)).cell? ⟨w.heap.size + 1 + 1 + 1, 0, none⟩ = some (.int .i64 0) := by rw [cell_of_block p3]; rfl
    have hkb5l := HK5.out.all.lt
    have hbl := HW7.out.chg kall (fun i hi e => by omega)
    refine ⟨by simp, .inl ⟨_, _, rfl, run_takeDeferred hK', ?_⟩⟩
    refine ⟨.tuple #[.pointer (some ⟨w7.heap.size, 0, none⟩), .int .i64 0], ?_, ⟨⟨w7.heap.size, kb5, rfl, pT, ?_⟩, hbl⟩⟩
    · simp [results, Tryz.f29, go_sem, r1, r2]
    · exact (KnotOn.chg HKW7.out kall (fun i e e' => by omega) (fun e => by omega)).all
end
end Go.Proofs.YthmimbmlcihkaaaGreat
