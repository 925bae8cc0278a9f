/-
  Split: the program's.
-/
import Derived.Test.YtjdkalimaldofaaNSplitA
namespace Go.Proofs.Ytjdkalimaldofaa
open Go.RowKit
set_option linter.unusedSimpArgs false
set_option linter.unusedVariables false

set_option maxRecDepth 100000 in
set_option maxHeartbeats 4000000 in
theorem split_bad (w : World) (own : Nat → Prop) (v : Value) (n : ND) (hv : NodeAt w own v n) (sm : n.Small) (ln : n.Lens) (hc : n.check ≠ 0) :
    Calls Try.prog 10 #[v] w fun e w' => SplitTells w n e w' ∧ Bl w w' := by
  have hv' := hv
  obtain ⟨ka, kc, va, vc, ia, ic, rfl, h⟩ := hv
  obtain ⟨_, _, _, hmax⟩ := RdAt.shape h.keys
  unfold maxLen at hmax
  have hmax30 := sm.keys
  have HC := Lib.hid hc
  have hcb : (n.check != 0) = true := by simpa using hc
  unfold nodeV
  unfold nodeV at hv'
  have F := Fr.start w n n.leaf ka kc va vc ia ic
  have hA := hv'.bl F.bl
  go_enter Try.func10, Try.ntmps10
  go_wp2_with fail
  generalize (((w.alloc (.cells #[.bool n.leaf, .slice ka n.keys.length kc, .slice va n.values.length vc, .slice ia n.kids.length ic] 25)).alloc (.cells #[.bool false, .slice none 0 0, .slice none 0 0, .slice none 0 0] 25)).alloc (.cells #[.bool false, .slice none 0 0, .slice none 0 0, .slice none 0 0] 25)).alloc (.cells #[.bool false, .slice none 0 0, .slice none 0 0, .slice none 0 0] 25) = W4 at *
  refine (check_any _ _ _ n hA sm ln).mono ?_
  rintro e w5 ⟨rfl, k5⟩
  have F5 := F.keep k5
  have l0 := lt_of_block F5.box
  have l1 := lt_of_block F5.one
  have l2 := lt_of_block F5.two
  have l3 := lt_of_block F5.three
  obtain ⟨x0, x1, x2, x3, -, -, -, -⟩ := cells4 F5.box
  obtain ⟨z0, z1, z2, z3, -, -, -, -⟩ := cells4 F5.three
  obtain ⟨o0, o1, o2, o3, fo0, fo1, fo2, fo3⟩ := cells4 F5.one
  obtain ⟨t0, t1, t2, t3, ft0, ft1, ft2, ft3⟩ := cells4 F5.two
  clear F hA hv' h hc
  go_wp2_with fail
  go_region
  all_goals go_wp2
  refine bodyPost_ret (v := .tuple #[.agg #[.bool false, .slice none 0 0, .slice none 0 0, .slice none 0 0], .string ⟨#[]⟩, .agg #[.bool false, .slice none 0 0, .slice none 0 0, .slice none 0 0], .int .i64 n.check]) (by simp [results, Try.results10, go_sem, *]) rfl ?_
  have hc8 := (chg8 (Bl.refl w5) (w.heap.size + 1) (w.heap.size + 1 + 1) (.bool false) (.slice none 0 0) (.slice none 0 0) (.slice none 0 0) (.bool false) (.slice none 0 0) (.slice none 0 0) (.slice none 0 0)).drew
  have hB := F5.bl.size
  exact ⟨⟨_, _, _, _, _, _, rfl, NodeAt.empty _ _, NodeAt.empty _ _, .bad HC.out⟩, Below.trans F5.bl (hc8.below hB (fun i hi e => by omega))⟩
set_option maxRecDepth 100000 in
set_option maxHeartbeats 4000000 in
theorem split_few_true (w : World) (own : Nat → Prop) (v : Value) (n : ND) (hv : NodeAt w own v n) (sm : n.Small) (ln : n.Lens) (hf : n.leaf = true) (hc : n.check = 0) (hlt : n.keys.length < 2) :
    Calls Try.prog 10 #[v] w fun e w' => SplitTells w n e w' ∧ Bl w w' := by
  have hv' := hv
  obtain ⟨ka, kc, va, vc, ia, ic, rfl, h⟩ := hv
  obtain ⟨_, _, _, hmax⟩ := RdAt.shape h.keys
  unfold maxLen at hmax
  have hmax30 := sm.keys
  have HC : Hid (n.check = 0 ∧ n.last < 1) := ⟨hc, by simp [ND.last, hf]; omega⟩
  have hlt' : (n.keys.length : Int) < 2 := by omega
  unfold nodeV
  unfold nodeV at hv'
  have F := Fr.start w n true ka kc va vc ia ic
  rw [hf]
  rw [hf] at hv'
  clear hf
  have hA := hv'.bl F.bl
  go_enter Try.func10, Try.ntmps10
  go_wp2_with fail
  generalize (((w.alloc (.cells #[.bool true, .slice ka n.keys.length kc, .slice va n.values.length vc, .slice ia n.kids.length ic] 25)).alloc (.cells #[.bool false, .slice none 0 0, .slice none 0 0, .slice none 0 0] 25)).alloc (.cells #[.bool false, .slice none 0 0, .slice none 0 0, .slice none 0 0] 25)).alloc (.cells #[.bool false, .slice none 0 0, .slice none 0 0, .slice none 0 0] 25) = W4 at *
  refine (check_any _ _ _ n hA sm ln).mono ?_
  rintro e w5 ⟨rfl, k5⟩
  have F5 := F.keep k5
  rw [hc]
  have l0 := lt_of_block F5.box
  have l1 := lt_of_block F5.one
  have l2 := lt_of_block F5.two
  have l3 := lt_of_block F5.three
  obtain ⟨x0, x1, x2, x3, -, -, -, -⟩ := cells4 F5.box
  obtain ⟨z0, z1, z2, z3, -, -, -, -⟩ := cells4 F5.three
  obtain ⟨o0, o1, o2, o3, fo0, fo1, fo2, fo3⟩ := cells4 F5.one
  obtain ⟨t0, t1, t2, t3, ft0, ft1, ft2, ft3⟩ := cells4 F5.two
  clear F hA hv' h hc hlt
  go_wp2_with fail
  go_region
  all_goals go_wp2
  refine bodyPost_ret (v := .tuple #[.agg #[.bool false, .slice none 0 0, .slice none 0 0, .slice none 0 0], .string ⟨#[]⟩, .agg #[.bool false, .slice none 0 0, .slice none 0 0, .slice none 0 0], .int .i64 4]) (by simp [results, Try.results10, go_sem, *]) rfl ?_
  have hc8 := (chg8 (Bl.refl w5) (w.heap.size + 1) (w.heap.size + 1 + 1) (.bool false) (.slice none 0 0) (.slice none 0 0) (.slice none 0 0) (.bool false) (.slice none 0 0) (.slice none 0 0) (.slice none 0 0)).drew
  have hB := F5.bl.size
  exact ⟨⟨_, _, _, _, _, _, rfl, NodeAt.empty _ _, NodeAt.empty _ _, .few HC.out.1 HC.out.2⟩, Below.trans F5.bl (hc8.below hB (fun i hi e => by omega))⟩
set_option maxRecDepth 100000 in
set_option maxHeartbeats 4000000 in
theorem split_few_false (w : World) (own : Nat → Prop) (v : Value) (n : ND) (hv : NodeAt w own v n) (sm : n.Small) (ln : n.Lens) (hf : n.leaf = false) (hc : n.check = 0) (hlt : n.keys.length < 3) :
    Calls Try.prog 10 #[v] w fun e w' => SplitTells w n e w' ∧ Bl w w' := by
  have hv' := hv
  obtain ⟨ka, kc, va, vc, ia, ic, rfl, h⟩ := hv
  obtain ⟨_, _, _, hmax⟩ := RdAt.shape h.keys
  unfold maxLen at hmax
  have hmax30 := sm.keys
  have HC : Hid (n.check = 0 ∧ n.last < 1) := ⟨hc, by simp [ND.last, hf]; omega⟩
  have hlt' : (n.keys.length : Int) < 3 := by omega
  unfold nodeV
  unfold nodeV at hv'
  have F := Fr.start w n false ka kc va vc ia ic
  rw [hf]
  rw [hf] at hv'
  clear hf
  have hA := hv'.bl F.bl
  go_enter Try.func10, Try.ntmps10
  go_wp2_with fail
  generalize (((w.alloc (.cells #[.bool false, .slice ka n.keys.length kc, .slice va n.values.length vc, .slice ia n.kids.length ic] 25)).alloc (.cells #[.bool false, .slice none 0 0, .slice none 0 0, .slice none 0 0] 25)).alloc (.cells #[.bool false, .slice none 0 0, .slice none 0 0, .slice none 0 0] 25)).alloc (.cells #[.bool false, .slice none 0 0, .slice none 0 0, .slice none 0 0] 25) = W4 at *
  refine (check_any _ _ _ n hA sm ln).mono ?_
  rintro e w5 ⟨rfl, k5⟩
  have F5 := F.keep k5
  rw [hc]
  have l0 := lt_of_block F5.box
  have l1 := lt_of_block F5.one
  have l2 := lt_of_block F5.two
  have l3 := lt_of_block F5.three
  obtain ⟨x0, x1, x2, x3, -, -, -, -⟩ := cells4 F5.box
  obtain ⟨z0, z1, z2, z3, -, -, -, -⟩ := cells4 F5.three
  obtain ⟨o0, o1, o2, o3, fo0, fo1, fo2, fo3⟩ := cells4 F5.one
  obtain ⟨t0, t1, t2, t3, ft0, ft1, ft2, ft3⟩ := cells4 F5.two
  clear F hA hv' h hc hlt
  go_wp2_with fail
  go_region
  all_goals go_wp2
  refine bodyPost_ret (v := .tuple #[.agg #[.bool false, .slice none 0 0, .slice none 0 0, .slice none 0 0], .string ⟨#[]⟩, .agg #[.bool false, .slice none 0 0, .slice none 0 0, .slice none 0 0], .int .i64 4]) (by simp [results, Try.results10, go_sem, *]) rfl ?_
  have hc8 := (chg8 (Bl.refl w5) (w.heap.size + 1) (w.heap.size + 1 + 1) (.bool false) (.slice none 0 0) (.slice none 0 0) (.slice none 0 0) (.bool false) (.slice none 0 0) (.slice none 0 0) (.slice none 0 0)).drew
  have hB := F5.bl.size
  exact ⟨⟨_, _, _, _, _, _, rfl, NodeAt.empty _ _, NodeAt.empty _ _, .few HC.out.1 HC.out.2⟩, Below.trans F5.bl (hc8.below hB (fun i hi e => by omega))⟩
set_option maxRecDepth 100000 in
set_option maxHeartbeats 4000000 in
theorem split_ok_true (w : World) (own : Nat → Prop) (v : Value) (n : ND) (hv : NodeAt w own v n) (sm : n.Small) (ln : n.Lens) (hf : n.leaf = true) (hc : n.check = 0) (hlt : 2 ≤ n.keys.length) :
    Calls Try.prog 10 #[v] w fun e w' => SplitTells w n e w' ∧ Bl w w' := by
  have hv' := hv
  obtain ⟨ka, kc, va, vc, ia, ic, rfl, h⟩ := hv
  obtain ⟨_, _, _, hmax⟩ := RdAt.shape h.keys
  unfold maxLen at hmax
  have hmax30 := sm.keys
  have HC := Lib.hid hc
  obtain ⟨hl, hp, -⟩ := ND.check_zero hc
  have HV := Lib.hid (ND.form_leaf (ND.shape_form hp) hf)
  obtain ⟨i9, hi9, hz0, hz1, hz2⟩ := info_parts info9
  have hlt' : ¬ (n.keys.length : Int) < 2 := by omega
  have eL : Hid (((n.keys.length : Int) - 1) = ((n.keys.length - 1 : Nat) : Int)) := by show _ = _; omega
  have HLs : Hid (n.last = n.keys.length - 1) := by show _ = _; simp [ND.last, hf]
  have HF := Lib.hid hf
  replace h := h.mono (own2 := fun k => k < w.heap.size) (fun k hk _ => hk)
  obtain ⟨g, off, hka, _, hg, hcell⟩ := RdAt.get h.keys (by omega)
  have HCell := Lib.hid hcell
  have HKA := Lib.hid hka
  clear hcell hka
  unfold nodeV
  unfold nodeV at hv'
  have F := Fr.start w n true ka kc va vc ia ic
  rw [hf]
  rw [hf] at hv'
  clear hf
  have hA := hv'.bl F.bl
  go_enter Try.func10, Try.ntmps10
  go_wp2_with fail
  generalize (((w.alloc (.cells #[.bool true, .slice ka n.keys.length kc, .slice va n.values.length vc, .slice ia n.kids.length ic] 25)).alloc (.cells #[.bool false, .slice none 0 0, .slice none 0 0, .slice none 0 0] 25)).alloc (.cells #[.bool false, .slice none 0 0, .slice none 0 0, .slice none 0 0] 25)).alloc (.cells #[.bool false, .slice none 0 0, .slice none 0 0, .slice none 0 0] 25) = W4 at *
  refine (check_any _ _ _ n hA sm ln).mono ?_
  rintro e w5 ⟨rfl, k5⟩
  have F5 := F.keep k5
  rw [hc]
  have l0 := lt_of_block F5.box
  have l1 := lt_of_block F5.one
  have l2 := lt_of_block F5.two
  have l3 := lt_of_block F5.three
  obtain ⟨x0, x1, x2, x3, -, -, -, -⟩ := cells4 F5.box
  obtain ⟨z0, z1, z2, z3, -, -, -, -⟩ := cells4 F5.three
  obtain ⟨o0, o1, o2, o3, fo0, fo1, fo2, fo3⟩ := cells4 F5.one
  obtain ⟨t0, t1, t2, t3, ft0, ft1, ft2, ft3⟩ := cells4 F5.two
  clear hc
  go_wp2_with fail
  rw [eL.out]
  refine (half_any _ own _ n _ (hA.bl k5) sm hl (by omega) (by omega)).mono ?_
  rintro e w6 ⟨⟨h6, rfl, hh⟩, k6⟩
  have F6 := F5.keep k6
  have k46 := k5.trans k6
  have hkR := (RdAt.below h.keys (F.bl.trans k46))
  have hvR := (RdAt.below h.values (F.bl.trans k46))
  obtain ⟨a1, d1, hs1, r1⟩ := slice_to Try.underlying22 hi9 hz1 hkR (k := h6) (by have := hh.le; omega)
  obtain ⟨a2, d2, hs2, r2⟩ := slice_to Try.underlying22 hi9 hz1 hvR (k := h6) (by have := hh.le; have := HV.out.1; omega)
  obtain ⟨a3, d3, hs3, r3⟩ := slice_from Try.underlying22 hi9 hz1 hkR (k := h6) (by have := hh.le; omega)
  obtain ⟨a4, d4, hs4, r4⟩ := slice_from Try.underlying22 hi9 hz1 hvR (k := h6) (by have := hh.le; have := HV.out.1; omega)
  rw [tcells_take] at r1 r2
  rw [tcells_drop] at r3 r4
  have hh6 := hh.le
  have HH := Lib.hid hh
  clear hh
  clear l0 l1 l2 l3 x0 x1 x2 x3 z0 z1 z2 z3 o0 o1 o2 o3 fo0 fo1 fo2 fo3 t0 t1 t2 t3 ft0 ft1 ft2 ft3 hkR hvR hv'
  have l0 := lt_of_block F6.box
  have l1 := lt_of_block F6.one
  have l2 := lt_of_block F6.two
  have l3 := lt_of_block F6.three
  obtain ⟨x0, x1, x2, x3, -, -, -, -⟩ := cells4 F6.box
  have KC : Hid (∀ w', Chg (· = w.heap.size + 1) w6 w' → w'.cell? ⟨w.heap.size, 1, none⟩ = some (.slice ka n.keys.length kc) ∧ w'.cell? ⟨w.heap.size, 2, none⟩ = some (.slice va n.values.length vc) ∧ w'.cell? ⟨w.heap.size, 3, none⟩ = some (.slice ia n.kids.length ic)) := fun w' kk => by
    have bb := kk.keeps F6.box (by omega)
    exact ⟨(cell_of_block bb 1).trans rfl, (cell_of_block bb 2).trans rfl, (cell_of_block bb 3).trans rfl⟩
  go_wp2_with fail
  go_region_held3 (fun w' => w'.cell? ⟨w.heap.size, 1, none⟩ = some (.slice ka n.keys.length kc) ∧ w'.cell? ⟨w.heap.size, 2, none⟩ = some (.slice va n.values.length vc) ∧ w'.cell? ⟨w.heap.size, 3, none⟩ = some (.slice ia n.kids.length ic)) (first | exact KC.out _ (chg4 k7 _ _ _ _ _) | exact KC.out _ (Chg.of_below (by ((repeat (first | with_reducible exact Bl.refl _ | with_reducible exact k7 | with_reducible refine Bl.alloc ?_ _ | with_reducible refine Bl.drew ?_)); done)))) ((go_at_call 33; refine (copied_lit _ (fun k => k < w.heap.size) true (n.keys.take h6) (n.values.take h6) [] _ _ _ _ _ _ h6 h6 0 (by simp; omega) (by have := HV.out.1; simp; omega) rfl ?_ ?_ (SlAt.nil _ _ 3 1 _).rd (by omega) (by omega) (by omega)).mono ?_; exact RdAt.below r1 (by ((repeat (first | with_reducible exact Bl.refl _ | with_reducible exact k7 | with_reducible refine Bl.alloc ?_ _ | with_reducible refine Bl.drew ?_)); done)); exact RdAt.below r2 (by ((repeat (first | with_reducible exact Bl.refl _ | with_reducible exact k7 | with_reducible refine Bl.alloc ?_ _ | with_reducible refine Bl.drew ?_)); done)); rintro e w7 ⟨⟨ka7, kc7, va7, vc7, ia7, ic7, rfl, q7⟩, kk7⟩; (have k7 : Bl w6 w7 := Bl.trans (by ((repeat (first | with_reducible exact Bl.refl _ | with_reducible exact k7 | with_reducible refine Bl.alloc ?_ _ | with_reducible refine Bl.drew ?_)); done)) kk7); (have F7 := F6.keep k7); obtain ⟨o0, o1, o2, o3, fo0, fo1, fo2, fo3⟩ := cells4 F7.one))
  have F8 := F7.set1 (.bool true) (.slice ka7 h6 kc7) (.slice va7 h6 vc7) (.slice ia7 0 ic7)
  have hc8 := chg4 (Bl.refl w7) (w.heap.size + 1) (.bool true) (.slice ka7 h6 kc7) (.slice va7 h6 vc7) (.slice ia7 0 ic7)
  have hcX := chg4 k7 (w.heap.size + 1) (.bool true) (.slice ka7 h6 kc7) (.slice va7 h6 vc7) (.slice ia7 0 ic7)
  have q8 := (q7.mono (own2 := fun k => w.heap.size + 4 ≤ k) (fun k _ hk => by simp only [World.size_drew] at hk; have := F6.bl.size; have := lt_of_block F6.three; omega)).chg hc8 (fun k hk e => by omega)
  replace r3 := RdAt.chg r3 hcX (fun k hk e => by omega)
  replace r4 := RdAt.chg r4 hcX (fun k hk e => by omega)
  clear KC l0 l1 l2 l3 x0 x1 x2 x3 o0 o1 o2 o3 fo0 fo1 fo2 fo3 hc8 hcX
  generalize (((w7.setCell ⟨w.heap.size + 1, 0, none⟩ (.bool true)).setCell ⟨w.heap.size + 1, 1, none⟩ (.slice ka7 h6 kc7)).setCell ⟨w.heap.size + 1, 2, none⟩ (.slice va7 h6 vc7)).setCell ⟨w.heap.size + 1, 3, none⟩ (.slice ia7 0 ic7) = W8 at *
  have l0 := lt_of_block F8.box
  have l1 := lt_of_block F8.one
  have l2 := lt_of_block F8.two
  have l3 := lt_of_block F8.three
  obtain ⟨x0, x1, x2, x3, -, -, -, -⟩ := cells4 F8.box
  have KC : Hid (∀ w', Chg (· = w.heap.size + 1 + 1) W8 w' → w'.cell? ⟨w.heap.size, 1, none⟩ = some (.slice ka n.keys.length kc) ∧ w'.cell? ⟨w.heap.size, 2, none⟩ = some (.slice va n.values.length vc) ∧ w'.cell? ⟨w.heap.size, 3, none⟩ = some (.slice ia n.kids.length ic)) := fun w' kk => by
    have bb := kk.keeps F8.box (by omega)
    exact ⟨(cell_of_block bb 1).trans rfl, (cell_of_block bb 2).trans rfl, (cell_of_block bb 3).trans rfl⟩
  go_wp2_with fail
  go_region_held3 (fun w' => w'.cell? ⟨w.heap.size, 1, none⟩ = some (.slice ka n.keys.length kc) ∧ w'.cell? ⟨w.heap.size, 2, none⟩ = some (.slice va n.values.length vc) ∧ w'.cell? ⟨w.heap.size, 3, none⟩ = some (.slice ia n.kids.length ic)) (first | exact KC.out _ (chg4 k9 _ _ _ _ _) | exact KC.out _ (Chg.of_below (by ((repeat (first | with_reducible exact Bl.refl _ | with_reducible exact k9 | with_reducible refine Bl.alloc ?_ _ | with_reducible refine Bl.drew ?_)); done)))) ((go_at_call 33; refine (copied_lit _ (fun k => k < w.heap.size) true (n.keys.drop h6) (n.values.drop h6) [] _ _ _ _ _ _ (n.keys.length - h6) (n.values.length - h6) 0 (by simp) (by simp) rfl ?_ ?_ (SlAt.nil _ _ 3 1 _).rd (by omega) (by have := HV.out.1; omega) (by omega)).mono ?_; exact RdAt.below r3 (by ((repeat (first | with_reducible exact Bl.refl _ | with_reducible exact k9 | with_reducible refine Bl.alloc ?_ _ | with_reducible refine Bl.drew ?_)); done)); exact RdAt.below r4 (by ((repeat (first | with_reducible exact Bl.refl _ | with_reducible exact k9 | with_reducible refine Bl.alloc ?_ _ | with_reducible refine Bl.drew ?_)); done)); rintro e w9 ⟨⟨ka9, kc9, va9, vc9, ia9, ic9, rfl, q9⟩, kk9⟩; (have k9 : Bl W8 w9 := Bl.trans (by ((repeat (first | with_reducible exact Bl.refl _ | with_reducible exact k9 | with_reducible refine Bl.alloc ?_ _ | with_reducible refine Bl.drew ?_)); done)) kk9); (have F9 := F8.keep k9); obtain ⟨o0, o1, o2, o3, fo0, fo1, fo2, fo3⟩ := cells4 F9.two))
  have F10 := F9.set2 (.bool true) (.slice ka9 (n.keys.length - h6) kc9) (.slice va9 (n.values.length - h6) vc9) (.slice ia9 0 ic9)
  have hc10 := chg4 (Bl.refl w9) (w.heap.size + 1 + 1) (.bool true) (.slice ka9 (n.keys.length - h6) kc9) (.slice va9 (n.values.length - h6) vc9) (.slice ia9 0 ic9)
  have hcX := chg4 k9 (w.heap.size + 1 + 1) (.bool true) (.slice ka9 (n.keys.length - h6) kc9) (.slice va9 (n.values.length - h6) vc9) (.slice ia9 0 ic9)
  have q10 := (q9.mono (own2 := fun k => w.heap.size + 4 ≤ k) (fun k _ hk => by simp only [World.size_drew] at hk; have := F8.bl.size; have := lt_of_block F8.three; omega)).chg hc10 (fun k hk e => by omega)
  replace q8 := (q8.bl k9).chg hc10 (fun k hk e => by omega)
  clear KC l0 l1 l2 l3 x0 x1 x2 x3 o0 o1 o2 o3 fo0 fo1 fo2 fo3 hc10 hcX
  generalize (((w9.setCell ⟨w.heap.size + 1 + 1, 0, none⟩ (.bool true)).setCell ⟨w.heap.size + 1 + 1, 1, none⟩ (.slice ka9 (n.keys.length - h6) kc9)).setCell ⟨w.heap.size + 1 + 1, 2, none⟩ (.slice va9 (n.values.length - h6) vc9)).setCell ⟨w.heap.size + 1 + 1, 3, none⟩ (.slice ia9 0 ic9) = W10 at *
  have hka := HKA.out
  subst hka
  have c1 := (F10.bl.cell (p := ⟨g, off + h6, none⟩) hg).trans (HCell.out h6 _ (tcells_get (by omega)))
  have hB := F10.bl.size
  obtain ⟨-, x1, -, -, -, -, -, -⟩ := cells4 F10.box
  obtain ⟨o0, o1, o2, o3, fo0, fo1, fo2, fo3⟩ := cells4 F10.one
  obtain ⟨t0, t1, t2, t3, ft0, ft1, ft2, ft3⟩ := cells4 F10.two
  have g0 : ¬ g = w.heap.size := by omega
  have g1 : ¬ g = w.heap.size + 1 := by omega
  have g2 : ¬ g = w.heap.size + 1 + 1 := by omega
  have i0 : (0 : Int) ≤ (h6 : Int) := by omega
  have i1 : (h6 : Int) < (n.keys.length : Int) := by omega
  have EE : Hid (n.left h6 = ⟨true, n.keys.take h6, n.values.take h6, []⟩ ∧ n.right h6 = ⟨true, n.keys.drop h6, n.values.drop h6, []⟩) := by
    refine ⟨?_, ?_⟩
    · rw [ND.left, if_pos HF.out]
    · rw [ND.right, if_pos HF.out]
  clear hs1 hs2 hs3 hs4
  go_wp2_with fail
  go_region
  all_goals go_wp2
  all_goals
    refine bodyPost_ret (v := .tuple #[.agg #[.bool true, .slice ka7 h6 kc7, .slice va7 h6 vc7, .slice ia7 0 ic7], .string n.keys[h6], .agg #[.bool true, .slice ka9 (n.keys.length - h6) kc9, .slice va9 (n.values.length - h6) vc9, .slice ia9 0 ic9], .int .i64 0]) (by simp [results, Try.results10, go_sem, *]) rfl ?_
    have hc8 := (chg8 (Bl.refl W10) (w.heap.size + 1) (w.heap.size + 1 + 1) (.bool true) (.slice ka7 h6 kc7) (.slice va7 h6 vc7) (.slice ia7 0 ic7) (.bool true) (.slice ka9 (n.keys.length - h6) kc9) (.slice va9 (n.values.length - h6) vc9) (.slice ia9 0 ic9)).drew
    refine ⟨⟨_, _, _, _, ⟨true, n.keys.take h6, n.values.take h6, []⟩, ⟨true, n.keys.drop h6, n.values.drop h6, []⟩, rfl, ⟨_, _, _, _, _, _, ?_, (q8.chg hc8 (fun k hk e => by omega)).mono (fun k _ hk => by omega)⟩, ⟨_, _, _, _, _, _, ?_, (q10.chg hc8 (fun k hk e => by omega)).mono (fun k _ hk => by omega)⟩, ?_⟩, Below.trans F10.bl (hc8.below hB (fun i hi e => by omega))⟩
    · have := HV.out.1; simp [nodeV]; omega
    · have := HV.out.1; simp [nodeV]
    · rw [← EE.out.1, ← EE.out.2]
      exact .ok HC.out h6 (by rw [HLs.out]; exact HH.out) (by omega)
set_option maxRecDepth 100000 in
set_option maxHeartbeats 4000000 in
theorem split_ok_false (w : World) (own : Nat → Prop) (v : Value) (n : ND) (hv : NodeAt w own v n) (sm : n.Small) (ln : n.Lens) (hf : n.leaf = false) (hc : n.check = 0) (hlt : 3 ≤ n.keys.length) :
    Calls Try.prog 10 #[v] w fun e w' => SplitTells w n e w' ∧ Bl w w' := by
  have hv' := hv
  obtain ⟨ka, kc, va, vc, ia, ic, rfl, h⟩ := hv
  obtain ⟨_, _, _, hmax⟩ := RdAt.shape h.keys
  unfold maxLen at hmax
  have hmax30 := sm.keys
  have HC := Lib.hid hc
  obtain ⟨hl, hp, -⟩ := ND.check_zero hc
  have HV := Lib.hid (ND.form_inner (ND.shape_form hp) hf)
  obtain ⟨i9, hi9, hz0, hz1, hz2⟩ := info_parts info9
  obtain ⟨i3, hi3, jz0, jz1, jz2⟩ := info_parts info3
  have hlt' : ¬ (n.keys.length : Int) < 3 := by omega
  have eL : Hid (((n.keys.length : Int) - 2) = ((n.keys.length - 2 : Nat) : Int)) := by show _ = _; omega
  have HLs : Hid (n.last = n.keys.length - 2) := by show _ = _; simp [ND.last, hf]
  have HF := Lib.hid hf
  have hk30 := sm.kids
  replace h := h.mono (own2 := fun k => k < w.heap.size) (fun k hk _ => hk)
  obtain ⟨g, off, hka, _, hg, hcell⟩ := RdAt.get h.keys (by omega)
  have HCell := Lib.hid hcell
  have HKA := Lib.hid hka
  clear hcell hka
  unfold nodeV
  unfold nodeV at hv'
  have F := Fr.start w n false ka kc va vc ia ic
  rw [hf]
  rw [hf] at hv'
  clear hf
  have hA := hv'.bl F.bl
  go_enter Try.func10, Try.ntmps10
  go_wp2_with fail
  generalize (((w.alloc (.cells #[.bool false, .slice ka n.keys.length kc, .slice va n.values.length vc, .slice ia n.kids.length ic] 25)).alloc (.cells #[.bool false, .slice none 0 0, .slice none 0 0, .slice none 0 0] 25)).alloc (.cells #[.bool false, .slice none 0 0, .slice none 0 0, .slice none 0 0] 25)).alloc (.cells #[.bool false, .slice none 0 0, .slice none 0 0, .slice none 0 0] 25) = W4 at *
  refine (check_any _ _ _ n hA sm ln).mono ?_
  rintro e w5 ⟨rfl, k5⟩
  have F5 := F.keep k5
  rw [hc]
  have l0 := lt_of_block F5.box
  have l1 := lt_of_block F5.one
  have l2 := lt_of_block F5.two
  have l3 := lt_of_block F5.three
  obtain ⟨x0, x1, x2, x3, -, -, -, -⟩ := cells4 F5.box
  obtain ⟨z0, z1, z2, z3, -, -, -, -⟩ := cells4 F5.three
  obtain ⟨o0, o1, o2, o3, fo0, fo1, fo2, fo3⟩ := cells4 F5.one
  obtain ⟨t0, t1, t2, t3, ft0, ft1, ft2, ft3⟩ := cells4 F5.two
  clear hc
  go_wp2_with fail
  rw [eL.out]
  refine (half_any _ own _ n _ (hA.bl k5) sm hl (by omega) (by omega)).mono ?_
  rintro e w6 ⟨⟨h6, rfl, hh⟩, k6⟩
  have F6 := F5.keep k6
  have k46 := k5.trans k6
  have hkR := (RdAt.below h.keys (F.bl.trans k46))
  have hvR := (RdAt.below h.kids (F.bl.trans k46))
  obtain ⟨a1, d1, hs1, r1⟩ := slice_to Try.underlying22 hi9 hz1 hkR (k := h6) (by have := hh.le; omega)
  obtain ⟨a2, d2, hs2, r2⟩ := slice_to Try.underlying23 hi3 jz1 hvR (k := h6 + 1) (by have := hh.le; have := HV.out.1; omega)
  obtain ⟨a3, d3, hs3, r3⟩ := slice_from Try.underlying22 hi9 hz1 hkR (k := h6 + 1) (by have := hh.le; omega)
  obtain ⟨a4, d4, hs4, r4⟩ := slice_from Try.underlying23 hi3 jz1 hvR (k := h6 + 1) (by have := hh.le; have := HV.out.1; omega)
  rw [tcells_take] at r1
  rw [icells_take] at r2
  rw [tcells_drop] at r3
  rw [icells_drop] at r4
  rw [show ((h6 + 1 : Nat) : Int) = (h6 : Int) + 1 by omega] at hs2 hs3 hs4
  have hwr : IntKind.i64.wrap ((h6 : Int) + 1) = (h6 : Int) + 1 := IntWalk.i64_in _ (by have := hh.le; omega)
  have hh6 := hh.le
  have HH := Lib.hid hh
  clear hh
  clear l0 l1 l2 l3 x0 x1 x2 x3 z0 z1 z2 z3 o0 o1 o2 o3 fo0 fo1 fo2 fo3 t0 t1 t2 t3 ft0 ft1 ft2 ft3 hkR hvR hv'
  have l0 := lt_of_block F6.box
  have l1 := lt_of_block F6.one
  have l2 := lt_of_block F6.two
  have l3 := lt_of_block F6.three
  obtain ⟨x0, x1, x2, x3, -, -, -, -⟩ := cells4 F6.box
  have KC : Hid (∀ w', Chg (· = w.heap.size + 1) w6 w' → w'.cell? ⟨w.heap.size, 1, none⟩ = some (.slice ka n.keys.length kc) ∧ w'.cell? ⟨w.heap.size, 2, none⟩ = some (.slice va n.values.length vc) ∧ w'.cell? ⟨w.heap.size, 3, none⟩ = some (.slice ia n.kids.length ic)) := fun w' kk => by
    have bb := kk.keeps F6.box (by omega)
    exact ⟨(cell_of_block bb 1).trans rfl, (cell_of_block bb 2).trans rfl, (cell_of_block bb 3).trans rfl⟩
  go_wp2_with fail
  go_region_held3 (fun w' => w'.cell? ⟨w.heap.size, 1, none⟩ = some (.slice ka n.keys.length kc) ∧ w'.cell? ⟨w.heap.size, 2, none⟩ = some (.slice va n.values.length vc) ∧ w'.cell? ⟨w.heap.size, 3, none⟩ = some (.slice ia n.kids.length ic)) (first | exact KC.out _ (chg4 k7 _ _ _ _ _) | exact KC.out _ (Chg.of_below (by ((repeat (first | with_reducible exact Bl.refl _ | with_reducible exact k7 | with_reducible refine Bl.alloc ?_ _ | with_reducible refine Bl.drew ?_)); done)))) ((go_at_call 33; refine (copied_lit _ (fun k => k < w.heap.size) false (n.keys.take h6) [] (n.kids.take (h6 + 1)) _ _ _ _ _ _ h6 0 (h6 + 1) (by simp; omega) rfl (by have := HV.out.1; simp; omega) ?_ (SlAt.nil _ _ 9 1 _).rd ?_ (by omega) (by omega) (by omega)).mono ?_; exact RdAt.below r1 (by ((repeat (first | with_reducible exact Bl.refl _ | with_reducible exact k7 | with_reducible refine Bl.alloc ?_ _ | with_reducible refine Bl.drew ?_)); done)); exact RdAt.below r2 (by ((repeat (first | with_reducible exact Bl.refl _ | with_reducible exact k7 | with_reducible refine Bl.alloc ?_ _ | with_reducible refine Bl.drew ?_)); done)); rintro e w7 ⟨⟨ka7, kc7, va7, vc7, ia7, ic7, rfl, q7⟩, kk7⟩; (have k7 : Bl w6 w7 := Bl.trans (by ((repeat (first | with_reducible exact Bl.refl _ | with_reducible exact k7 | with_reducible refine Bl.alloc ?_ _ | with_reducible refine Bl.drew ?_)); done)) kk7); (have F7 := F6.keep k7); obtain ⟨o0, o1, o2, o3, fo0, fo1, fo2, fo3⟩ := cells4 F7.one))
  have F8 := F7.set1 (.bool false) (.slice ka7 h6 kc7) (.slice va7 0 vc7) (.slice ia7 (h6 + 1) ic7)
  have hc8 := chg4 (Bl.refl w7) (w.heap.size + 1) (.bool false) (.slice ka7 h6 kc7) (.slice va7 0 vc7) (.slice ia7 (h6 + 1) ic7)
  have hcX := chg4 k7 (w.heap.size + 1) (.bool false) (.slice ka7 h6 kc7) (.slice va7 0 vc7) (.slice ia7 (h6 + 1) ic7)
  have q8 := (q7.mono (own2 := fun k => w.heap.size + 4 ≤ k) (fun k _ hk => by simp only [World.size_drew] at hk; have := F6.bl.size; have := lt_of_block F6.three; omega)).chg hc8 (fun k hk e => by omega)
  replace r3 := RdAt.chg r3 hcX (fun k hk e => by omega)
  replace r4 := RdAt.chg r4 hcX (fun k hk e => by omega)
  clear KC l0 l1 l2 l3 x0 x1 x2 x3 o0 o1 o2 o3 fo0 fo1 fo2 fo3 hc8 hcX
  generalize (((w7.setCell ⟨w.heap.size + 1, 0, none⟩ (.bool false)).setCell ⟨w.heap.size + 1, 1, none⟩ (.slice ka7 h6 kc7)).setCell ⟨w.heap.size + 1, 2, none⟩ (.slice va7 0 vc7)).setCell ⟨w.heap.size + 1, 3, none⟩ (.slice ia7 (h6 + 1) ic7) = W8 at *
  have l0 := lt_of_block F8.box
  have l1 := lt_of_block F8.one
  have l2 := lt_of_block F8.two
  have l3 := lt_of_block F8.three
  obtain ⟨x0, x1, x2, x3, -, -, -, -⟩ := cells4 F8.box
  have KC : Hid (∀ w', Chg (· = w.heap.size + 1 + 1) W8 w' → w'.cell? ⟨w.heap.size, 1, none⟩ = some (.slice ka n.keys.length kc) ∧ w'.cell? ⟨w.heap.size, 2, none⟩ = some (.slice va n.values.length vc) ∧ w'.cell? ⟨w.heap.size, 3, none⟩ = some (.slice ia n.kids.length ic)) := fun w' kk => by
    have bb := kk.keeps F8.box (by omega)
    exact ⟨(cell_of_block bb 1).trans rfl, (cell_of_block bb 2).trans rfl, (cell_of_block bb 3).trans rfl⟩
  go_wp2_with fail
  go_region_held3 (fun w' => w'.cell? ⟨w.heap.size, 1, none⟩ = some (.slice ka n.keys.length kc) ∧ w'.cell? ⟨w.heap.size, 2, none⟩ = some (.slice va n.values.length vc) ∧ w'.cell? ⟨w.heap.size, 3, none⟩ = some (.slice ia n.kids.length ic)) (first | exact KC.out _ (chg4 k9 _ _ _ _ _) | exact KC.out _ (Chg.of_below (by ((repeat (first | with_reducible exact Bl.refl _ | with_reducible exact k9 | with_reducible refine Bl.alloc ?_ _ | with_reducible refine Bl.drew ?_)); done)))) ((go_at_call 33; refine (copied_lit _ (fun k => k < w.heap.size) false (n.keys.drop (h6 + 1)) [] (n.kids.drop (h6 + 1)) _ _ _ _ _ _ (n.keys.length - (h6 + 1)) 0 (n.kids.length - (h6 + 1)) (by simp) rfl (by simp) ?_ (SlAt.nil _ _ 9 1 _).rd ?_ (by omega) (by omega) (by have := HV.out.1; omega)).mono ?_; exact RdAt.below r3 (by ((repeat (first | with_reducible exact Bl.refl _ | with_reducible exact k9 | with_reducible refine Bl.alloc ?_ _ | with_reducible refine Bl.drew ?_)); done)); exact RdAt.below r4 (by ((repeat (first | with_reducible exact Bl.refl _ | with_reducible exact k9 | with_reducible refine Bl.alloc ?_ _ | with_reducible refine Bl.drew ?_)); done)); rintro e w9 ⟨⟨ka9, kc9, va9, vc9, ia9, ic9, rfl, q9⟩, kk9⟩; (have k9 : Bl W8 w9 := Bl.trans (by ((repeat (first | with_reducible exact Bl.refl _ | with_reducible exact k9 | with_reducible refine Bl.alloc ?_ _ | with_reducible refine Bl.drew ?_)); done)) kk9); (have F9 := F8.keep k9); obtain ⟨o0, o1, o2, o3, fo0, fo1, fo2, fo3⟩ := cells4 F9.two))
  have F10 := F9.set2 (.bool false) (.slice ka9 (n.keys.length - (h6 + 1)) kc9) (.slice va9 0 vc9) (.slice ia9 (n.kids.length - (h6 + 1)) ic9)
  have hc10 := chg4 (Bl.refl w9) (w.heap.size + 1 + 1) (.bool false) (.slice ka9 (n.keys.length - (h6 + 1)) kc9) (.slice va9 0 vc9) (.slice ia9 (n.kids.length - (h6 + 1)) ic9)
  have hcX := chg4 k9 (w.heap.size + 1 + 1) (.bool false) (.slice ka9 (n.keys.length - (h6 + 1)) kc9) (.slice va9 0 vc9) (.slice ia9 (n.kids.length - (h6 + 1)) ic9)
  have q10 := (q9.mono (own2 := fun k => w.heap.size + 4 ≤ k) (fun k _ hk => by simp only [World.size_drew] at hk; have := F8.bl.size; have := lt_of_block F8.three; omega)).chg hc10 (fun k hk e => by omega)
  replace q8 := (q8.bl k9).chg hc10 (fun k hk e => by omega)
  clear KC l0 l1 l2 l3 x0 x1 x2 x3 o0 o1 o2 o3 fo0 fo1 fo2 fo3 hc10 hcX
  generalize (((w9.setCell ⟨w.heap.size + 1 + 1, 0, none⟩ (.bool false)).setCell ⟨w.heap.size + 1 + 1, 1, none⟩ (.slice ka9 (n.keys.length - (h6 + 1)) kc9)).setCell ⟨w.heap.size + 1 + 1, 2, none⟩ (.slice va9 0 vc9)).setCell ⟨w.heap.size + 1 + 1, 3, none⟩ (.slice ia9 (n.kids.length - (h6 + 1)) ic9) = W10 at *
  have hka := HKA.out
  subst hka
  have c1 := (F10.bl.cell (p := ⟨g, off + h6, none⟩) hg).trans (HCell.out h6 _ (tcells_get (by omega)))
  have hB := F10.bl.size
  obtain ⟨-, x1, -, -, -, -, -, -⟩ := cells4 F10.box
  obtain ⟨o0, o1, o2, o3, fo0, fo1, fo2, fo3⟩ := cells4 F10.one
  obtain ⟨t0, t1, t2, t3, ft0, ft1, ft2, ft3⟩ := cells4 F10.two
  have g0 : ¬ g = w.heap.size := by omega
  have g1 : ¬ g = w.heap.size + 1 := by omega
  have g2 : ¬ g = w.heap.size + 1 + 1 := by omega
  have i0 : (0 : Int) ≤ (h6 : Int) := by omega
  have i1 : (h6 : Int) < (n.keys.length : Int) := by omega
  have EE : Hid (n.left h6 = ⟨false, n.keys.take h6, [], n.kids.take (h6 + 1)⟩ ∧ n.right h6 = ⟨false, n.keys.drop (h6 + 1), [], n.kids.drop (h6 + 1)⟩) := by
    refine ⟨?_, ?_⟩
    · rw [ND.left, if_neg (by rw [HF.out]; decide)]
    · rw [ND.right, if_neg (by rw [HF.out]; decide)]
  clear hs1 hs2 hs3 hs4
  go_wp2_with fail
  go_region
  all_goals go_wp2
  all_goals
    refine bodyPost_ret (v := .tuple #[.agg #[.bool false, .slice ka7 h6 kc7, .slice va7 0 vc7, .slice ia7 (h6 + 1) ic7], .string n.keys[h6], .agg #[.bool false, .slice ka9 (n.keys.length - (h6 + 1)) kc9, .slice va9 0 vc9, .slice ia9 (n.kids.length - (h6 + 1)) ic9], .int .i64 0]) (by simp [results, Try.results10, go_sem, *]) rfl ?_
    have hc8 := (chg8 (Bl.refl W10) (w.heap.size + 1) (w.heap.size + 1 + 1) (.bool false) (.slice ka7 h6 kc7) (.slice va7 0 vc7) (.slice ia7 (h6 + 1) ic7) (.bool false) (.slice ka9 (n.keys.length - (h6 + 1)) kc9) (.slice va9 0 vc9) (.slice ia9 (n.kids.length - (h6 + 1)) ic9)).drew
    refine ⟨⟨_, _, _, _, ⟨false, n.keys.take h6, [], n.kids.take (h6 + 1)⟩, ⟨false, n.keys.drop (h6 + 1), [], n.kids.drop (h6 + 1)⟩, rfl, ⟨_, _, _, _, _, _, ?_, (q8.chg hc8 (fun k hk e => by omega)).mono (fun k _ hk => by omega)⟩, ⟨_, _, _, _, _, _, ?_, (q10.chg hc8 (fun k hk e => by omega)).mono (fun k _ hk => by omega)⟩, ?_⟩, Below.trans F10.bl (hc8.below hB (fun i hi e => by omega))⟩
    · have := HV.out.1; simp [nodeV]; omega
    · have := HV.out.1; simp [nodeV]
    · rw [← EE.out.1, ← EE.out.2]
      exact .ok HC.out h6 (by rw [HLs.out]; exact HH.out) (by omega)
theorem split_any (w : World) (own : Nat → Prop) (v : Value) (n : ND) (hv : NodeAt w own v n) (sm : n.Small) (ln : n.Lens) :
    Calls Try.prog 10 #[v] w fun e w' => SplitTells w n e w' ∧ Bl w w' := by
  by_cases hc : n.check = 0
  · cases hf : n.leaf with
    | true =>
      by_cases h : n.keys.length < 2
      · exact split_few_true w own v n hv sm ln hf hc h
      · exact split_ok_true w own v n hv sm ln hf hc (by omega)
    | false =>
      by_cases h : n.keys.length < 3
      · exact split_few_false w own v n hv sm ln hf hc h
      · exact split_ok_false w own v n hv sm ln hf hc (by omega)
  · exact split_bad w own v n hv sm ln hc
end Go.Proofs.Ytjdkalimaldofaa
