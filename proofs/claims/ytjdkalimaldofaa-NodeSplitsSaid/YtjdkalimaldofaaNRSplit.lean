/-
  Split: the document's.
-/
import Derived.Test.YtjdkalimaldofaaNSplit
import Derived.Deep.DeepCutAuto
import Derived.Deep.RegionHeld3
import Derived.Deep.Light
namespace Go.Proofs.Ytjdkalimaldofaa
open Go.RowKit
set_option linter.unusedSimpArgs false
set_option linter.unusedVariables false

theorem rcopy_lit (w : World) (own : Nat → Prop) (v : Value) (n : ND) (lf : Bool) (hf : n.leaf = lf) (hv : NodeAt w own v n) (sm : n.Small) :
    Calls Try.prog 9 #[v] w fun e w' => (∃ ka kc va vc ia ic, e = .returned (.agg #[.bool lf, .slice ka n.keys.length kc, .slice va n.values.length vc, .slice ia n.kids.length ic]) ∧ NodeIn w' (fun k => w.heap.size ≤ k) n ka kc va vc ia ic) ∧ Bl w w' := by
  subst hf
  refine (rcopy_any w own v n hv sm).mono ?_
  rintro e w' ⟨⟨v, rfl, ka, kc, va, vc, ia, ic, rfl, q⟩, k⟩
  exact ⟨⟨ka, kc, va, vc, ia, ic, rfl, q⟩, k⟩
theorem cell_under {a b : World} (k : Bl a b) : ∀ g o, g < a.heap.size → b.cell? ⟨g, o, none⟩ = a.cell? ⟨g, o, none⟩ := fun g o h => k.cell (p := ⟨g, o, none⟩) h
theorem lt_under {a b : World} (k : Bl a b) : ∀ g, g < a.heap.size → g < b.heap.size := fun g h => Nat.lt_of_lt_of_le h k.size
theorem NodeIn.chgB {a b : World} {M N : Nat} {n : ND} {ka : Option Addr} {kc : Nat} {va : Option Addr} {vc : Nat} {ia : Option Addr} {ic : Nat} (h : NodeIn a (fun k => M ≤ k) n ka kc va vc ia ic) (hc : Chg (fun i => ¬ (M ≤ i ∧ i < a.heap.size)) a b) (hm : N ≤ M) : NodeIn b (fun k => N ≤ k) n ka kc va vc ia ic :=
  ⟨RdAt.keep h.keys (fun k hk e => hc.block k hk (fun x => x ⟨e, hk⟩)) (fun k _ e => Nat.le_trans hm e) hc.size,
   RdAt.keep h.values (fun k hk e => hc.block k hk (fun x => x ⟨e, hk⟩)) (fun k _ e => Nat.le_trans hm e) hc.size,
   RdAt.keep h.kids (fun k hk e => hc.block k hk (fun x => x ⟨e, hk⟩)) (fun k _ e => Nat.le_trans hm e) hc.size⟩
theorem set4_same {X : World} {D : Nat} {u0 u1 u2 u3 : Value} (h : X.heap[D]? = some (.cells #[.bool false, .slice none 0 0, .slice none 0 0, .slice none 0 0] 25 (0, 0))) :
    ((((X.setCell ⟨D, 0, none⟩ u0).setCell ⟨D, 1, none⟩ u1).setCell ⟨D, 2, none⟩ u2).setCell ⟨D, 3, none⟩ u3).heap[D]? = some (.cells #[u0, u1, u2, u3] 25 (0, 0)) := (block_set (block_set (block_set (block_set h 0 u0) 1 u1) 2 u2) 3 u3).trans rfl
theorem set4_other {X : World} {D E : Nat} {o : Option Obj} {u0 u1 u2 u3 : Value} (h : X.heap[D]? = o) (hne : D ≠ E) :
    ((((X.setCell ⟨E, 0, none⟩ u0).setCell ⟨E, 1, none⟩ u1).setCell ⟨E, 2, none⟩ u2).setCell ⟨E, 3, none⟩ u3).heap[D]? = o := by
  rw [Below.heap_setCell _ _ _ _ hne, Below.heap_setCell _ _ _ _ hne, Below.heap_setCell _ _ _ _ hne, Below.heap_setCell _ _ _ _ hne]; exact h
theorem ne_under {a b : World} (k : Bl a b) : ∀ g, g < a.heap.size → ¬ g = b.heap.size := fun g h => Nat.ne_of_lt (Nat.lt_of_lt_of_le h k.size)
theorem en_under {a b : World} (k : Bl a b) : ∀ g, g < a.heap.size → ¬ b.heap.size = g := fun g h => Ne.symm (Nat.ne_of_lt (Nat.lt_of_lt_of_le h k.size))
theorem frozen_under {a b : World} (k : Bl a b) : ∀ g o, g < a.heap.size → b.frozen? ⟨g, o, none⟩ = a.frozen? ⟨g, o, none⟩ := fun g o h => k.frozen (p := ⟨g, o, none⟩) h
/-- the frame of the document's Split: the argument's box and two nodes behind it -/
structure Gr (w W : World) (n : ND) (lf : Bool) (ka : Option Addr) (kc : Nat) (va : Option Addr) (vc : Nat) (ia : Option Addr) (ic : Nat) (c1 c2 : Array Value) : Prop where
  bl : Bl w W
  box : W.heap[w.heap.size]? = some (.cells #[.bool lf, .slice ka n.keys.length kc, .slice va n.values.length vc, .slice ia n.kids.length ic] 25 (0, 0))
  one : W.heap[w.heap.size + 1]? = some (.cells c1 25 (0, 0))
  two : W.heap[w.heap.size + 1 + 1]? = some (.cells c2 25 (0, 0))
theorem Gr.start (w : World) (n : ND) (lf : Bool) (ka : Option Addr) (kc : Nat) (va : Option Addr) (vc : Nat) (ia : Option Addr) (ic : Nat) :
    Gr w (((w.alloc (.cells #[.bool lf, .slice ka n.keys.length kc, .slice va n.values.length vc, .slice ia n.kids.length ic] 25)).alloc (.cells #[.bool false, .slice none 0 0, .slice none 0 0, .slice none 0 0] 25)).alloc (.cells #[.bool false, .slice none 0 0, .slice none 0 0, .slice none 0 0] 25)) n lf ka kc va vc ia ic zcells zcells :=
  ⟨(((Bl.refl w).alloc _).alloc _).alloc _, block_old _ (block_old _ (block_new _ _)),
   block_old _ (block_new' _ (by simp)), block_new' _ (by simp)⟩
theorem Gr.keep {w W W' : World} {n : ND} {lf : Bool} {ka : Option Addr} {kc : Nat} {va : Option Addr} {vc : Nat} {ia : Option Addr} {ic : Nat} {c1 c2 : Array Value} (h : Gr w W n lf ka kc va vc ia ic c1 c2) (k : Bl W W') : Gr w W' n lf ka kc va vc ia ic c1 c2 :=
  ⟨h.bl.trans k, below_keeps k h.box (lt_of_block h.box), below_keeps k h.one (lt_of_block h.one), below_keeps k h.two (lt_of_block h.two)⟩

theorem Gr.chg {w W W' : World} {n : ND} {lf : Bool} {ka : Option Addr} {kc : Nat} {va : Option Addr} {vc : Nat} {ia : Option Addr} {ic : Nat} {c1 c2 : Array Value} (h : Gr w W n lf ka kc va vc ia ic c1 c2) (k : Chg (fun i => W.heap.size ≤ i) W W') : Gr w W' n lf ka kc va vc ia ic c1 c2 :=
  ⟨Below.trans h.bl (k.below h.bl.size (fun i hi e => by have := h.bl.size; omega)), k.keeps h.box (Nat.not_le.2 (lt_of_block h.box)), k.keeps h.one (Nat.not_le.2 (lt_of_block h.one)), k.keeps h.two (Nat.not_le.2 (lt_of_block h.two))⟩
set_option maxRecDepth 100000 in
set_option maxHeartbeats 40000000 in
theorem rsplit_bad (w : World) (own : Nat → Prop) (v : Value) (n : ND) (hv : NodeAt w own v n) (sm : n.Small) (ln : n.Lens) (hc : n.check ≠ 0) :
    Calls Try.prog 11 #[v] w fun e w' => SplitTells w n e w' ∧ Bl w w' := by
  have hv' := hv
  obtain ⟨ka, kc, va, vc, ia, ic, rfl, h⟩ := hv
  obtain ⟨_, _, _, hmax⟩ := RdAt.shape h.keys
  unfold maxLen at hmax
  have hmax30 := sm.keys
  have HC := Lib.hid hc
  have hcb : (n.check != 0) = true := by simpa using hc
  unfold nodeV
  unfold nodeV at hv'
  have F := Gr.start w n n.leaf ka kc va vc ia ic
  have hA := hv'.bl F.bl
  go_enter Try.func11, Try.ntmps11
  go_wp2_with fail
  generalize ((w.alloc (.cells #[.bool n.leaf, .slice ka n.keys.length kc, .slice va n.values.length vc, .slice ia n.kids.length ic] 25)).alloc (.cells #[.bool false, .slice none 0 0, .slice none 0 0, .slice none 0 0] 25)).alloc (.cells #[.bool false, .slice none 0 0, .slice none 0 0, .slice none 0 0] 25) = W4 at *
  refine (rcheck_any _ _ _ n hA sm ln).mono ?_
  rintro e w5 ⟨rfl, k5⟩
  have F5 := F.keep k5
  have l0 := lt_of_block F5.box
  have l1 := lt_of_block F5.one
  have l2 := lt_of_block F5.two
  obtain ⟨x0, x1, x2, x3, -, -, -, -⟩ := cells4 F5.box
  obtain ⟨o0, o1, o2, o3, fo0, fo1, fo2, fo3⟩ := cells4 F5.one
  obtain ⟨t0, t1, t2, t3, ft0, ft1, ft2, ft3⟩ := cells4 F5.two
  clear F hA hv' h hc
  go_wp2_with fail
  refine bodyPost_ret (v := .tuple #[.agg #[.bool false, .slice none 0 0, .slice none 0 0, .slice none 0 0], .string ⟨#[]⟩, .agg #[.bool false, .slice none 0 0, .slice none 0 0, .slice none 0 0], .int .i64 n.check]) (by simp [results, Try.results11, go_sem, *]) rfl ?_
  have hc8 := (chg8 (Bl.refl w5) (w.heap.size + 1) (w.heap.size + 1 + 1) (.bool false) (.slice none 0 0) (.slice none 0 0) (.slice none 0 0) (.bool false) (.slice none 0 0) (.slice none 0 0) (.slice none 0 0))
  have hB := F5.bl.size
  exact ⟨⟨_, _, _, _, _, _, rfl, NodeAt.empty _ _, NodeAt.empty _ _, .bad HC.out⟩, Below.trans F5.bl (hc8.below hB (fun i hi e => by omega))⟩
set_option maxRecDepth 100000 in
set_option maxHeartbeats 40000000 in
theorem rsplit_few_true (w : World) (own : Nat → Prop) (v : Value) (n : ND) (hv : NodeAt w own v n) (sm : n.Small) (ln : n.Lens) (hf : n.leaf = true) (hc : n.check = 0) (hlt : n.keys.length < 2) :
    Calls Try.prog 11 #[v] w fun e w' => SplitTells w n e w' ∧ Bl w w' := by
  have hv' := hv
  obtain ⟨ka, kc, va, vc, ia, ic, rfl, h⟩ := hv
  obtain ⟨_, _, _, hmax⟩ := RdAt.shape h.keys
  unfold maxLen at hmax
  have hmax30 := sm.keys
  have HC : Hid (n.check = 0 ∧ n.last < 1) := ⟨hc, by simp [ND.last, hf]; omega⟩
  have hlt' : (n.keys.length : Int) - 1 < 1 := by omega
  unfold nodeV
  unfold nodeV at hv'
  have F := Gr.start w n true ka kc va vc ia ic
  rw [hf]
  rw [hf] at hv'
  clear hf
  have hA := hv'.bl F.bl
  go_enter Try.func11, Try.ntmps11
  go_wp2_with fail
  generalize ((w.alloc (.cells #[.bool true, .slice ka n.keys.length kc, .slice va n.values.length vc, .slice ia n.kids.length ic] 25)).alloc (.cells #[.bool false, .slice none 0 0, .slice none 0 0, .slice none 0 0] 25)).alloc (.cells #[.bool false, .slice none 0 0, .slice none 0 0, .slice none 0 0] 25) = W4 at *
  refine (rcheck_any _ _ _ n hA sm ln).mono ?_
  rintro e w5 ⟨rfl, k5⟩
  have F5 := F.keep k5
  rw [hc]
  have l0 := lt_of_block F5.box
  have l1 := lt_of_block F5.one
  have l2 := lt_of_block F5.two
  obtain ⟨x0, x1, x2, x3, -, -, -, -⟩ := cells4 F5.box
  obtain ⟨o0, o1, o2, o3, fo0, fo1, fo2, fo3⟩ := cells4 F5.one
  obtain ⟨t0, t1, t2, t3, ft0, ft1, ft2, ft3⟩ := cells4 F5.two
  clear F hA hv' h hc hlt
  go_wp2_with fail
  refine bodyPost_ret (v := .tuple #[.agg #[.bool false, .slice none 0 0, .slice none 0 0, .slice none 0 0], .string ⟨#[]⟩, .agg #[.bool false, .slice none 0 0, .slice none 0 0, .slice none 0 0], .int .i64 4]) (by simp [results, Try.results11, go_sem, *]) rfl ?_
  have hc8 := (chg8 (Bl.refl w5) (w.heap.size + 1) (w.heap.size + 1 + 1) (.bool false) (.slice none 0 0) (.slice none 0 0) (.slice none 0 0) (.bool false) (.slice none 0 0) (.slice none 0 0) (.slice none 0 0))
  have hB := F5.bl.size
  exact ⟨⟨_, _, _, _, _, _, rfl, NodeAt.empty _ _, NodeAt.empty _ _, .few HC.out.1 HC.out.2⟩, Below.trans F5.bl (hc8.below hB (fun i hi e => by omega))⟩
set_option maxRecDepth 100000 in
set_option maxHeartbeats 40000000 in
theorem rsplit_few_false (w : World) (own : Nat → Prop) (v : Value) (n : ND) (hv : NodeAt w own v n) (sm : n.Small) (ln : n.Lens) (hf : n.leaf = false) (hc : n.check = 0) (hlt : n.keys.length < 3) :
    Calls Try.prog 11 #[v] w fun e w' => SplitTells w n e w' ∧ Bl w w' := by
  have hv' := hv
  obtain ⟨ka, kc, va, vc, ia, ic, rfl, h⟩ := hv
  obtain ⟨_, _, _, hmax⟩ := RdAt.shape h.keys
  unfold maxLen at hmax
  have hmax30 := sm.keys
  have HC : Hid (n.check = 0 ∧ n.last < 1) := ⟨hc, by simp [ND.last, hf]; omega⟩
  have hlt' : (n.keys.length : Int) - 1 - 1 < 1 := by omega
  unfold nodeV
  unfold nodeV at hv'
  have F := Gr.start w n false ka kc va vc ia ic
  rw [hf]
  rw [hf] at hv'
  clear hf
  have hA := hv'.bl F.bl
  go_enter Try.func11, Try.ntmps11
  go_wp2_with fail
  generalize ((w.alloc (.cells #[.bool false, .slice ka n.keys.length kc, .slice va n.values.length vc, .slice ia n.kids.length ic] 25)).alloc (.cells #[.bool false, .slice none 0 0, .slice none 0 0, .slice none 0 0] 25)).alloc (.cells #[.bool false, .slice none 0 0, .slice none 0 0, .slice none 0 0] 25) = W4 at *
  refine (rcheck_any _ _ _ n hA sm ln).mono ?_
  rintro e w5 ⟨rfl, k5⟩
  have F5 := F.keep k5
  rw [hc]
  have l0 := lt_of_block F5.box
  have l1 := lt_of_block F5.one
  have l2 := lt_of_block F5.two
  obtain ⟨x0, x1, x2, x3, -, -, -, -⟩ := cells4 F5.box
  obtain ⟨o0, o1, o2, o3, fo0, fo1, fo2, fo3⟩ := cells4 F5.one
  obtain ⟨t0, t1, t2, t3, ft0, ft1, ft2, ft3⟩ := cells4 F5.two
  clear F hA hv' h hc hlt
  go_wp2_with fail
  refine bodyPost_ret (v := .tuple #[.agg #[.bool false, .slice none 0 0, .slice none 0 0, .slice none 0 0], .string ⟨#[]⟩, .agg #[.bool false, .slice none 0 0, .slice none 0 0, .slice none 0 0], .int .i64 4]) (by simp [results, Try.results11, go_sem, *]) rfl ?_
  have hc8 := (chg8 (Bl.refl w5) (w.heap.size + 1) (w.heap.size + 1 + 1) (.bool false) (.slice none 0 0) (.slice none 0 0) (.slice none 0 0) (.bool false) (.slice none 0 0) (.slice none 0 0) (.slice none 0 0))
  have hB := F5.bl.size
  exact ⟨⟨_, _, _, _, _, _, rfl, NodeAt.empty _ _, NodeAt.empty _ _, .few HC.out.1 HC.out.2⟩, Below.trans F5.bl (hc8.below hB (fun i hi e => by omega))⟩
set_option maxRecDepth 100000 in
set_option maxHeartbeats 40000000 in
theorem rsplit_ok (w : World) (own : Nat → Prop) (v : Value) (n : ND) (hv : NodeAt w own v n) (sm : n.Small) (ln : n.Lens) (hc : n.check = 0) (hlt : (n.leaf = true ∧ 2 ≤ n.keys.length) ∨ (n.leaf = false ∧ 3 ≤ n.keys.length)) :
    Calls Try.prog 11 #[v] w fun e w' => SplitTells w n e w' ∧ Bl w w' := by
  have hv' := hv
  obtain ⟨ka, kc, va, vc, ia, ic, rfl, h⟩ := hv
  obtain ⟨_, _, _, hmax⟩ := RdAt.shape h.keys
  unfold maxLen at hmax
  have hmax30 := sm.keys
  have HC := Lib.hid hc
  obtain ⟨hl, hp, -⟩ := ND.check_zero hc
  have HFO := Lib.hid (ND.shape_form hp)
  have HL := Lib.hid hl
  have hS0 := n.sumTo_pos n.keys.length
  have hS1 := ND.sumTo_le hl n.keys.length
  clear hl hp
  have HLT := Lib.hid hlt
  obtain ⟨L, hL⟩ : ∃ L : Nat, L = n.last := ⟨_, rfl⟩
  have HLs : Hid (n.last = L) := hL.symm
  have hL1 : 1 ≤ L := by rw [hL]; rcases hlt with h | h <;> simp [ND.last, h.1] <;> omega
  have hL2 : L < n.keys.length := by rw [hL]; rcases hlt with h | h <;> simp [ND.last, h.1] <;> omega
  have hk1 : 2 ≤ n.keys.length := by omega
  clear hL hlt
  replace h := h.mono (own2 := fun k => k < w.heap.size) (fun k hk _ => hk)
  obtain ⟨g, off, hka, _, hg, hcell⟩ := RdAt.get h.keys (by omega)
  have HCell := Lib.hid hcell
  have HKA := Lib.hid hka
  clear hcell hka
  unfold nodeV
  unfold nodeV at hv'
  have F := Gr.start w n n.leaf ka kc va vc ia ic
  have hA := hv'.bl F.bl
  go_enter Try.func11, Try.ntmps11
  go_wp2_with fail
  generalize ((w.alloc (.cells #[.bool n.leaf, .slice ka n.keys.length kc, .slice va n.values.length vc, .slice ia n.kids.length ic] 25)).alloc (.cells #[.bool false, .slice none 0 0, .slice none 0 0, .slice none 0 0] 25)).alloc (.cells #[.bool false, .slice none 0 0, .slice none 0 0, .slice none 0 0] 25) = W4 at *
  refine (rcheck_any _ _ _ n hA sm ln).mono ?_
  rintro e w5 ⟨rfl, k5⟩
  have F5 := F.keep k5
  rw [hc]
  have l0 := lt_of_block F5.box
  have l1 := lt_of_block F5.one
  have l2 := lt_of_block F5.two
  obtain ⟨x0, x1, x2, x3, -, -, -, -⟩ := cells4 F5.box
  obtain ⟨o0, o1, o2, o3, fo0, fo1, fo2, fo3⟩ := cells4 F5.one
  obtain ⟨t0, t1, t2, t3, ft0, ft1, ft2, ft3⟩ := cells4 F5.two
  clear hc o0 o1 o2 o3 fo0 fo1 fo2 fo3 t0 t1 t2 t3 ft0 ft1 ft2 ft3
  have w1 : IntKind.i64.wrap ((n.keys.length : Int) - 1) = (n.keys.length : Int) - 1 := IntWalk.i64_in _ (by omega)
  have w2 : IntKind.i64.wrap ((n.keys.length : Int) - 1 - 1) = (n.keys.length : Int) - 1 - 1 := IntWalk.i64_in _ (by omega)
  go_upto_if 31 with fail
  generalize hbb : (!n.leaf) = bb
  have HBB := Lib.hid hbb
  clear hbb
  go_cut [7] (fun l wx => l = .int .i64 (L : Int) ∧ wx = w5)
  case first =>
    cases bb with
    | false =>
      have e : Hid ((n.keys.length : Int) - 1 = (L : Int)) := by
        have hf : n.leaf = true := by have h0 := HBB.out; revert h0; cases n.leaf <;> simp
        have h1 := HLs.out
        rw [ND.last, if_pos hf] at h1
        show _ = _
        omega
      go_wp2_with fail
      go_meet
      case rel => exact ⟨by rw [e.out], rfl⟩
    | true =>
      have e : Hid ((n.keys.length : Int) - 1 - 1 = (L : Int)) := by
        have hf : n.leaf = false := by have h0 := HBB.out; revert h0; cases n.leaf <;> simp
        have h1 := HLs.out
        rw [ND.last, if_neg (by rw [hf]; decide)] at h1
        show _ = _
        omega
      go_wp2_with fail
      go_meet
      case rel => exact ⟨by rw [e.out], rfl⟩
  case rest =>
    obtain ⟨rfl, rfl⟩ := hcut
    go_wp2_with fail
    clear x0 x1 x2 x3 l0 l1 l2
    go_loopw [8, 9] (fun s i wr => ∃ k : Nat, k ≤ n.keys.length ∧ s = .int .i64 (n.sumTo k) ∧ i = .int .i64 k ∧ Gr w wr n n.leaf ka kc va vc ia ic zcells zcells) (fun _ i _ => n.keys.length - (intOf i).toNat)
    case atStart => exact ⟨0, by omega, by simp [ND.sumTo], rfl, F5⟩
    case round =>
      obtain ⟨k, hk, rfl, rfl, G⟩ := hrel
      have i0 : (0 : Int) ≤ (k : Int) := by omega
      have x0 : wr.cell? ⟨w.heap.size, 0, none⟩ = some (.bool n.leaf) := (cells4 G.box).1
      have x1 : wr.cell? ⟨w.heap.size, 1, none⟩ = some (.slice ka n.keys.length kc) := (cells4 G.box).2.1
      have x2 : wr.cell? ⟨w.heap.size, 2, none⟩ = some (.slice va n.values.length vc) := (cells4 G.box).2.2.1
      have x3 : wr.cell? ⟨w.heap.size, 3, none⟩ = some (.slice ia n.kids.length ic) := (cells4 G.box).2.2.2.1
      have hr := hv'.bl G.bl
      by_cases hlt : k < n.keys.length
      · have S0 := n.sumTo_pos k
        have S1 := ND.sumTo_le HL.out k
        have i1 : (k : Int) < (n.keys.length : Int) := by omega
        have E0 := n.rentry_pos k
        have E1 := ND.rentry_le HL.out k
        have hnx : Hid (n.sumTo (k + 1) = n.sumTo k + n.rentry k) := rfl
        generalize n.sumTo k = S at *
        go_wp2_with (go_at_call 34; refine (rentry_any wr own _ n hr (ND.Lens.of HL.out) k hlt).mono ?_; rintro e w3 ⟨rfl, k3⟩)
        go_roundw
        case rel => exact ⟨k + 1, by omega, by rw [hnx.out], by go_num, G.keep k3⟩
        case measure => simp [intOf]; omega
      · obtain rfl : k = n.keys.length := by omega
        have E0 := n.rentry_pos 0
        have E1 := ND.rentry_le HL.out 0
        have HF0 : Hid (n.sumTo 1 = n.rentry 0) := by show _ = _; simp [ND.sumTo]
        generalize hT : n.sumTo n.keys.length = T at *
        have HT := Lib.hid hT
        clear hT
        go_wp2_with (go_at_call 34; refine (rentry_any wr own _ n hr (ND.Lens.of HL.out) 0 (by omega)).mono ?_; rintro e w6 ⟨rfl, k6⟩)
        have G6 := G.keep k6
        clear x0 x1 x2 x3 hr
        rw [← HF0.out]
        go_loopw [10, 11] (fun i s wq => ∃ h6 : Nat, 1 ≤ h6 ∧ h6 ≤ L ∧ i = .int .i64 (h6 : Int) ∧ s = .int .i64 (n.sumTo h6) ∧ Gr w wq n n.leaf ka kc va vc ia ic zcells zcells ∧ Hid (∀ j, 1 ≤ j → j < h6 → 2 * n.sumTo j < T)) (fun i _ _ => L - (intOf i).toNat)
        case atStart => exact ⟨1, by omega, by omega, rfl, rfl, G6, fun j h1 h2 => by omega⟩
        case round =>
          obtain ⟨h6, hh1, hh6, rfl, rfl, G, hpre⟩ := hrel
          have i0 : (0 : Int) ≤ (h6 : Int) := by omega
          have x0 : wr.cell? ⟨w.heap.size, 0, none⟩ = some (.bool n.leaf) := (cells4 G.box).1
          have x1 : wr.cell? ⟨w.heap.size, 1, none⟩ = some (.slice ka n.keys.length kc) := (cells4 G.box).2.1
          have x2 : wr.cell? ⟨w.heap.size, 2, none⟩ = some (.slice va n.values.length vc) := (cells4 G.box).2.2.1
          have x3 : wr.cell? ⟨w.heap.size, 3, none⟩ = some (.slice ia n.kids.length ic) := (cells4 G.box).2.2.2.1
          have hr := hv'.bl G.bl
          have S0 := n.sumTo_pos h6
          have S1 := ND.sumTo_le HL.out h6
          by_cases hm : h6 < L ∧ 2 * n.sumTo h6 < T
          · obtain ⟨hm1, hm2⟩ := hm
            have j1 : (h6 : Int) < (L : Int) := by omega
            have E0 := n.rentry_pos h6
            have E1 := ND.rentry_le HL.out h6
            have hnx : Hid (n.sumTo (h6 + 1) = n.sumTo h6 + n.rentry h6) := rfl
            have hpre' : Hid (∀ j, 1 ≤ j → j < h6 + 1 → 2 * n.sumTo j < T) := by
              intro j h1 h2
              by_cases e : j = h6
              · subst e; exact hm2
              · exact hpre.out j h1 (by omega)
            clear hpre
            have HPre := hpre'
            clear hpre'
            generalize n.sumTo h6 = S at *
            go_wp2_with (go_at_call 34; refine (rentry_any wr own _ n hr (ND.Lens.of HL.out) h6 (by omega)).mono ?_; rintro e w3 ⟨rfl, k3⟩)
            go_roundw
            case rel => exact ⟨h6 + 1, by omega, by omega, by go_num, by rw [hnx.out], G.keep k3, HPre⟩
            case measure => simp [intOf]; omega
          · have HH : Hid (n.Half L h6) := by
              refine ⟨hh1, hh6, fun j h1 h2 => ?_, fun h1 => ?_⟩
              · rw [psumTo_sumTo HFO.out j (by omega), psumTo_sumTo HFO.out _ (Nat.le_refl _), HT.out]
                exact hpre.out j h1 h2
              · rw [psumTo_sumTo HFO.out h6 (by omega), psumTo_sumTo HFO.out _ (Nat.le_refl _), HT.out]
                exact Int.not_lt.1 (fun e => hm ⟨h1, e⟩)
            have hx : Hid ((¬ (h6 : Int) < (L : Int)) ∨ ((h6 : Int) < (L : Int) ∧ ¬ 2 * n.sumTo h6 < T)) := by
              by_cases hlt : h6 < L
              · exact Or.inr ⟨by omega, fun e => hm ⟨hlt, e⟩⟩
              · exact Or.inl (by omega)
            clear hpre hm
            generalize n.sumTo h6 = S at *
            clear hA hk hlt i0 E0 E1 HF0 G6 k6 k5 F5 F
            go_upto_region 15 with fail
            go_cut [60] (fun c wx => c = .bool false ∧ wx = wr)
            case first =>
              rcases hx.out with hx | ⟨hx, hx2⟩
              · go_wp2_with fail
                go_meet
                case rel => exact ⟨rfl, rfl⟩
              · go_wp2_with fail
                go_meet
                case rel => exact ⟨rfl, rfl⟩
            case rest =>
              obtain ⟨rfl, rfl⟩ := hcut
              go_upto_region 18 with fail
              go_cut [12, 13] (fun p q wx => ∃ D1 D2 ka7 kc7 va7 vc7 ia7 ic7 ka9 kc9 va9 vc9 ia9 ic9, p = .pointer (some ⟨D1, 0, none⟩) ∧ q = .pointer (some ⟨D2, 0, none⟩) ∧ Gr w wx n n.leaf ka kc va vc ia ic zcells zcells ∧
                wx.heap[D1]? = some (.cells #[.bool n.leaf, .slice ka7 n.keys.length kc7, .slice va7 n.values.length vc7, .slice ia7 n.kids.length ic7] 25 (0, 0)) ∧ wx.heap[D2]? = some (.cells #[.bool n.leaf, .slice ka9 n.keys.length kc9, .slice va9 n.values.length vc9, .slice ia9 n.kids.length ic9] 25 (0, 0)) ∧
                w.heap.size + 3 ≤ D1 ∧ w.heap.size + 3 ≤ D2 ∧ D1 ≠ D2 ∧ NodeIn wx (fun k => w.heap.size + 3 ≤ k) n ka7 kc7 va7 vc7 ia7 ic7 ∧ NodeIn wx (fun k => w.heap.size + 3 ≤ k) n ka9 kc9 va9 vc9 ia9 ic9)
              case first =>
                have KC : Hid (∀ w', Chg (fun i => wc.heap.size ≤ i) wc w' → w'.cell? ⟨w.heap.size, 0, none⟩ = some (.bool n.leaf) ∧ w'.cell? ⟨w.heap.size, 1, none⟩ = some (.slice ka n.keys.length kc) ∧ w'.cell? ⟨w.heap.size, 2, none⟩ = some (.slice va n.values.length vc) ∧ w'.cell? ⟨w.heap.size, 3, none⟩ = some (.slice ia n.kids.length ic)) := fun w' kk => by
                  have bb := kk.keeps G.box (Nat.not_le.2 (lt_of_block G.box))
                  exact ⟨(cells4 bb).1, (cells4 bb).2.1, (cells4 bb).2.2.1, (cells4 bb).2.2.2.1⟩
                go_region_held3 (fun w' => w'.cell? ⟨w.heap.size, 0, none⟩ = some (.bool n.leaf) ∧ w'.cell? ⟨w.heap.size, 1, none⟩ = some (.slice ka n.keys.length kc) ∧ w'.cell? ⟨w.heap.size, 2, none⟩ = some (.slice va n.values.length vc) ∧ w'.cell? ⟨w.heap.size, 3, none⟩ = some (.slice ia n.kids.length ic)) (exact KC.out _ (by ((repeat (first | with_reducible exact Chg.refl _ _ | with_reducible exact c9 | with_reducible exact c8 | with_reducible refine Chg.alloc ?_ _ | with_reducible refine Chg.drew ?_ | with_reducible refine Chg.setCell ?_ _ _ (fun _ => by (simp only [World.size_alloc, World.size_drew]; omega)))); done))) ((first | (go_at_call 9; (have kq := k8); clear kq; refine (rcopy_lit _ own _ n n.leaf rfl (hr.bl (by ((repeat (first | with_reducible exact Bl.refl _ | with_reducible exact k9 | with_reducible exact k8 | with_reducible refine Bl.alloc ?_ _ | with_reducible refine Bl.drew ?_)); done))) sm).mono ?_; rintro e w9 ⟨⟨ka9, kc9, va9, vc9, ia9, ic9, rfl, q9⟩, kk9⟩; (have k9 : Bl wc w9 := Bl.trans (by ((repeat (first | with_reducible exact Bl.refl _ | with_reducible exact k9 | with_reducible exact k8 | with_reducible refine Bl.alloc ?_ _ | with_reducible refine Bl.drew ?_)); done)) kk9); (have c9 : Chg (fun i => wc.heap.size ≤ i) wc w9 := Chg.of_below k9); (have s9 := kk9.size); (have b9 := k9.size); (have cc9 := cell_under kk9); (have ff9 := frozen_under kk9); (have lt9 := lt_under kk9); (have ne9 := ne_under kk9); (have en9 := en_under kk9); (have k89 : Bl w8 w9 := Bl.trans (by ((repeat (first | with_reducible exact Bl.refl _ | with_reducible refine Bl.alloc ?_ _ | with_reducible refine Bl.drew ?_)); done)) kk9); (have kk89 := Bl.trans kk8 k89); (have cc89 := cell_under kk89); (have ff89 := frozen_under kk89); (have lt89 := lt_under kk89); (have ne89 := ne_under kk89); (have en89 := en_under kk89)) | (go_at_call 9; refine (rcopy_lit _ own _ n n.leaf rfl (hr.bl (by ((repeat (first | with_reducible exact Bl.refl _ | with_reducible exact k9 | with_reducible exact k8 | with_reducible refine Bl.alloc ?_ _ | with_reducible refine Bl.drew ?_)); done))) sm).mono ?_; rintro e w8 ⟨⟨ka8, kc8, va8, vc8, ia8, ic8, rfl, q8⟩, kk8⟩; (have k8 : Bl wc w8 := Bl.trans (by ((repeat (first | with_reducible exact Bl.refl _ | with_reducible exact k9 | with_reducible exact k8 | with_reducible refine Bl.alloc ?_ _ | with_reducible refine Bl.drew ?_)); done)) kk8); (have c8 : Chg (fun i => wc.heap.size ≤ i) wc w8 := Chg.of_below k8); (have s8 := kk8.size); (have b8 := k8.size); (have cc8 := cell_under kk8); (have ff8 := frozen_under kk8); (have lt8 := lt_under kk8); (have ne8 := ne_under kk8); (have en8 := en_under kk8))))
                all_goals
                  go_wp2_with fail
                  go_meet
                  case rel =>
                    have G3 : w.heap.size + 3 ≤ wc.heap.size := lt_of_block G.two
                    simp only [World.size_alloc, World.size_drew] at s8 s9
                    go_light
                    clear lt8 lt9 lt89 ne8 ne9 ne89 en8 en9 en89 cc8 cc9 cc89 ff8 ff9 ff89 KC h HCell HKA hv' hr x0 x1 x2 x3 hS0 hS1 S0 S1 hx HT HL HLs HH HFO w1 w2 hmax hmax30 hL1 hL2 hk1 hh1 hh6 hg
                    refine ⟨_, _, ka8, kc8, va8, vc8, ia8, ic8, ka9, kc9, va9, vc9, ia9, ic9, rfl, rfl, ?_, ?_, ?_, ?_, ?_, ?_, ?_, ?_⟩
                    · exact G.chg (by ((repeat (first | with_reducible exact Chg.refl _ _ | with_reducible exact c9 | with_reducible exact c8 | with_reducible refine Chg.alloc ?_ _ | with_reducible refine Chg.drew ?_ | with_reducible refine Chg.setCell ?_ _ _ (fun _ => by (first | omega | (simp only [World.size_alloc, World.size_drew, World.size_setCell]; done) | (simp only [World.size_alloc, World.size_drew, World.size_setCell]; omega))))); done))
                    · ((repeat (first | with_reducible exact block_new' _ (by (first | omega | (simp only [World.size_alloc, World.size_drew, World.size_setCell]; done) | (simp only [World.size_alloc, World.size_drew, World.size_setCell]; omega))) | with_reducible refine block_old _ ?_ | with_reducible refine set4_same ?_ | with_reducible refine set4_other ?_ (by (first | omega | (simp only [World.size_alloc, World.size_drew, World.size_setCell]; done) | (simp only [World.size_alloc, World.size_drew, World.size_setCell]; omega))) | with_reducible refine block_drew ?_ | with_reducible refine below_keeps kk9 ?_ (by (first | omega | (simp only [World.size_alloc, World.size_drew, World.size_setCell]; done) | (simp only [World.size_alloc, World.size_drew, World.size_setCell]; omega))) | with_reducible refine below_keeps kk8 ?_ (by (first | omega | (simp only [World.size_alloc, World.size_drew, World.size_setCell]; done) | (simp only [World.size_alloc, World.size_drew, World.size_setCell]; omega))))); done)
                    · ((repeat (first | with_reducible exact block_new' _ (by (first | omega | (simp only [World.size_alloc, World.size_drew, World.size_setCell]; done) | (simp only [World.size_alloc, World.size_drew, World.size_setCell]; omega))) | with_reducible refine block_old _ ?_ | with_reducible refine set4_same ?_ | with_reducible refine set4_other ?_ (by (first | omega | (simp only [World.size_alloc, World.size_drew, World.size_setCell]; done) | (simp only [World.size_alloc, World.size_drew, World.size_setCell]; omega))) | with_reducible refine block_drew ?_ | with_reducible refine below_keeps kk9 ?_ (by (first | omega | (simp only [World.size_alloc, World.size_drew, World.size_setCell]; done) | (simp only [World.size_alloc, World.size_drew, World.size_setCell]; omega))) | with_reducible refine below_keeps kk8 ?_ (by (first | omega | (simp only [World.size_alloc, World.size_drew, World.size_setCell]; done) | (simp only [World.size_alloc, World.size_drew, World.size_setCell]; omega))))); done)
                    · (first | omega | (simp only [World.size_alloc, World.size_drew, World.size_setCell]; done) | (simp only [World.size_alloc, World.size_drew, World.size_setCell]; omega))
                    · (first | omega | (simp only [World.size_alloc, World.size_drew, World.size_setCell]; done) | (simp only [World.size_alloc, World.size_drew, World.size_setCell]; omega))
                    · (first | omega | (simp only [World.size_alloc, World.size_drew, World.size_setCell]; done) | (simp only [World.size_alloc, World.size_drew, World.size_setCell]; omega))
                    · refine NodeIn.chgB q8 ?_ ?_
                      · ((repeat (first | with_reducible exact Chg.refl _ _ | with_reducible exact Chg.of_below k89 | with_reducible refine Chg.alloc ?_ _ | with_reducible refine Chg.drew ?_ | with_reducible refine Chg.setCell ?_ _ _ (fun _ => by (first | omega | (simp only [World.size_alloc, World.size_drew, World.size_setCell]; done) | (simp only [World.size_alloc, World.size_drew, World.size_setCell]; omega))))); done)
                      · (first | omega | (simp only [World.size_alloc, World.size_drew, World.size_setCell]; done) | (simp only [World.size_alloc, World.size_drew, World.size_setCell]; omega))
                    · refine NodeIn.chgB q9 ?_ ?_
                      · ((repeat (first | with_reducible exact Chg.refl _ _ | with_reducible exact Chg.of_below k89 | with_reducible refine Chg.alloc ?_ _ | with_reducible refine Chg.drew ?_ | with_reducible refine Chg.setCell ?_ _ _ (fun _ => by (first | omega | (simp only [World.size_alloc, World.size_drew, World.size_setCell]; done) | (simp only [World.size_alloc, World.size_drew, World.size_setCell]; omega))))); done)
                      · (first | omega | (simp only [World.size_alloc, World.size_drew, World.size_setCell]; done) | (simp only [World.size_alloc, World.size_drew, World.size_setCell]; omega))
              case rest =>
                obtain ⟨D1, D2, ka7, kc7, va7, vc7, ia7, ic7, ka9, kc9, va9, vc9, ia9, ic9, rfl, rfl, G, bD1, bD2, d1, d2, d3, q7, q9⟩ := hcut
                clear x0 x1 x2 x3 hr
                have hhL : h6 < n.keys.length := by omega
                have HEND := Lib.hid (And.intro HC.out (And.intro HLs.out HH.out))
                clear HH HC HL HLs hx HT hS0 hS1 S0 S1
                rcases HLT.out with ⟨hf, hk⟩ | ⟨hf, hk⟩
                · rw [hf] at G bD1 bD2
                  have HV := Lib.hid (ND.form_leaf HFO.out hf)
                  have HF := Lib.hid hf
                  obtain ⟨i9, hi9, hz0, hz1, hz2⟩ := info_parts info9
                  obtain ⟨a1, e1, hs1, r1⟩ := slice_to Try.underlying22 hi9 hz1 q7.keys (k := h6) (by omega)
                  obtain ⟨a2, e2, hs2, r2⟩ := slice_to Try.underlying22 hi9 hz1 q7.values (k := h6) (by have := HV.out.1; omega)
                  obtain ⟨a3, e3, hs3, r3⟩ := slice_from Try.underlying22 hi9 hz1 q9.keys (k := h6) (by omega)
                  obtain ⟨a4, e4, hs4, r4⟩ := slice_from Try.underlying22 hi9 hz1 q9.values (k := h6) (by have := HV.out.1; omega)
                  rw [tcells_take] at r1 r2
                  rw [tcells_drop] at r3 r4
                  clear q7 q9 hf hi9 hz0 hz1 hz2
                  have l0 := lt_of_block G.box
                  have l1 := lt_of_block G.one
                  have l2 := lt_of_block G.two
                  have m1 := lt_of_block bD1
                  have m2 := lt_of_block bD2
                  obtain ⟨x0, x1, x2, x3, -, -, -, -⟩ := cells4 G.box
                  obtain ⟨y0, y1, y2, y3, -, -, -, -⟩ := cells4 bD1
                  obtain ⟨z0, z1, z2, z3, -, -, -, -⟩ := cells4 bD2
                  have hka := HKA.out
                  subst hka
                  have c1 := (G.bl.cell (p := ⟨g, off + h6, none⟩) hg).trans (HCell.out h6 _ (tcells_get (by omega)))
                  have hB := G.bl.size
                  have lg : g < wc.heap.size := by omega
                  obtain ⟨o0, o1, o2, o3, fo0, fo1, fo2, fo3⟩ := cells4 G.one
                  obtain ⟨t0, t1, t2, t3, ft0, ft1, ft2, ft3⟩ := cells4 G.two
                  have g1 : ¬ g = w.heap.size + 1 := by omega
                  have g2 : ¬ g = w.heap.size + 1 + 1 := by omega
                  have i1 : (h6 : Int) < (n.keys.length : Int) := by omega
                  go_wp2_with fail
                  go_region
                  all_goals go_wp2
                  all_goals go_region
                  all_goals go_wp2
                  all_goals go_region
                  all_goals go_wp2
                  all_goals
                    refine bodyPost_ret (v := .tuple #[.agg #[.bool true, .slice a1 h6 e1, .slice a2 h6 e2, .slice none 0 0], .string n.keys[h6], .agg #[.bool true, .slice a3 (n.keys.length - h6) e3, .slice a4 (n.values.length - h6) e4, .slice none 0 0], .int .i64 0]) (by simp [results, Try.results11, go_sem, *]) rfl ?_
                    have hc8 := (((((chg8 (Bl.refl wc) (w.heap.size + 1) (w.heap.size + 1 + 1) (.bool true) (.slice a1 h6 e1) (.slice a2 h6 e2) (.slice none 0 0) (.bool true) (.slice a3 (n.keys.length - h6) e3) (.slice a4 (n.values.length - h6) e4) (.slice none 0 0)).alloc (.cells #[.bool true, .slice a1 h6 e1, .slice a2 h6 e2, .slice none 0 0] 25)).alloc (.cells #[.bool true, .slice a3 (n.keys.length - h6) e3, .slice a4 (n.values.length - h6) e4, .slice none 0 0] 25)).drew).drew).drew
                    have hd : ∀ k, w.heap.size + 3 ≤ k → ¬ (k = w.heap.size + 1 ∨ k = w.heap.size + 1 + 1) := fun k hk e => by omega
                    have hm : ∀ (W : World) k, k < W.heap.size → w.heap.size + 3 ≤ k → w.heap.size ≤ k := fun W k _ hk => by omega
                    have EE : n.left h6 = ⟨true, n.keys.take h6, n.values.take h6, []⟩ ∧ n.right h6 = ⟨true, n.keys.drop h6, n.values.drop h6, []⟩ := ⟨by rw [ND.left, if_pos HF.out], by rw [ND.right, if_pos HF.out]⟩
                    refine ⟨⟨_, _, _, _, n.left h6, n.right h6, rfl, ?_, ?_, .ok HEND.out.1 h6 (by rw [HEND.out.2.1]; exact HEND.out.2.2) hhL⟩, Below.trans G.bl (hc8.below hB (fun i hi e => by omega))⟩
                    · rw [EE.1]
                      have lk : (n.keys.take h6).length = h6 := by simp; omega
                      have lv : (n.values.take h6).length = h6 := by have := HV.out.1; simp; omega
                      refine ⟨a1, e1, a2, e2, none, 0, by simp only [nodeV, lk, lv, List.length_nil], ?_, ?_, (SlAt.nil _ _ 3 1 _).rd⟩
                      · show RdAt _ _ 1 (.slice a1 (n.keys.take h6).length e1) (n.keys.take h6).length _
                        rw [lk]; exact (RdAt.chg r1 hc8 hd).mono (hm _)
                      · show RdAt _ _ 1 (.slice a2 (n.values.take h6).length e2) (n.values.take h6).length _
                        rw [lv]; exact (RdAt.chg r2 hc8 hd).mono (hm _)
                    · rw [EE.2]
                      have lk : (n.keys.drop h6).length = n.keys.length - h6 := by simp
                      have lv : (n.values.drop h6).length = n.values.length - h6 := by simp
                      refine ⟨a3, e3, a4, e4, none, 0, by simp only [nodeV, lk, lv, List.length_nil], ?_, ?_, (SlAt.nil _ _ 3 1 _).rd⟩
                      · show RdAt _ _ 1 (.slice a3 (n.keys.drop h6).length e3) (n.keys.drop h6).length _
                        rw [lk]; exact (RdAt.chg r3 hc8 hd).mono (hm _)
                      · show RdAt _ _ 1 (.slice a4 (n.values.drop h6).length e4) (n.values.drop h6).length _
                        rw [lv]; exact (RdAt.chg r4 hc8 hd).mono (hm _)
                · rw [hf] at G bD1 bD2
                  have HV := Lib.hid (ND.form_inner HFO.out hf)
                  have HF := Lib.hid hf
                  obtain ⟨i9, hi9, hz0, hz1, hz2⟩ := info_parts info9
                  obtain ⟨i3, hi3, jz0, jz1, jz2⟩ := info_parts info3
                  obtain ⟨a1, e1, hs1, r1⟩ := slice_to Try.underlying22 hi9 hz1 q7.keys (k := h6) (by omega)
                  obtain ⟨a2, e2, hs2, r2⟩ := slice_to Try.underlying23 hi3 jz1 q7.kids (k := h6 + 1) (by have := HV.out.1; omega)
                  obtain ⟨a3, e3, hs3, r3⟩ := slice_from Try.underlying22 hi9 hz1 q9.keys (k := h6 + 1) (by omega)
                  obtain ⟨a4, e4, hs4, r4⟩ := slice_from Try.underlying23 hi3 jz1 q9.kids (k := h6 + 1) (by have := HV.out.1; omega)
                  rw [tcells_take] at r1
                  rw [icells_take] at r2
                  rw [tcells_drop] at r3
                  rw [icells_drop] at r4
                  rw [show ((h6 + 1 : Nat) : Int) = (h6 : Int) + 1 by omega] at hs2 hs3 hs4
                  have hwr : IntKind.i64.wrap ((h6 : Int) + 1) = (h6 : Int) + 1 := IntWalk.i64_in _ (by omega)
                  clear hi3 jz0 jz1 jz2
                  clear q7 q9 hf hi9 hz0 hz1 hz2
                  have l0 := lt_of_block G.box
                  have l1 := lt_of_block G.one
                  have l2 := lt_of_block G.two
                  have m1 := lt_of_block bD1
                  have m2 := lt_of_block bD2
                  obtain ⟨x0, x1, x2, x3, -, -, -, -⟩ := cells4 G.box
                  obtain ⟨y0, y1, y2, y3, -, -, -, -⟩ := cells4 bD1
                  obtain ⟨z0, z1, z2, z3, -, -, -, -⟩ := cells4 bD2
                  have hka := HKA.out
                  subst hka
                  have c1 := (G.bl.cell (p := ⟨g, off + h6, none⟩) hg).trans (HCell.out h6 _ (tcells_get (by omega)))
                  have hB := G.bl.size
                  have lg : g < wc.heap.size := by omega
                  obtain ⟨o0, o1, o2, o3, fo0, fo1, fo2, fo3⟩ := cells4 G.one
                  obtain ⟨t0, t1, t2, t3, ft0, ft1, ft2, ft3⟩ := cells4 G.two
                  have g1 : ¬ g = w.heap.size + 1 := by omega
                  have g2 : ¬ g = w.heap.size + 1 + 1 := by omega
                  have i1 : (h6 : Int) < (n.keys.length : Int) := by omega
                  go_wp2_with fail
                  go_region
                  all_goals go_wp2
                  all_goals go_region
                  all_goals go_wp2
                  all_goals go_region
                  all_goals go_wp2
                  all_goals
                    refine bodyPost_ret (v := .tuple #[.agg #[.bool false, .slice a1 h6 e1, .slice none 0 0, .slice a2 (h6 + 1) e2], .string n.keys[h6], .agg #[.bool false, .slice a3 (n.keys.length - (h6 + 1)) e3, .slice none 0 0, .slice a4 (n.kids.length - (h6 + 1)) e4], .int .i64 0]) (by simp [results, Try.results11, go_sem, *]) rfl ?_
                    have hc8 := (((((chg8 (Bl.refl wc) (w.heap.size + 1) (w.heap.size + 1 + 1) (.bool false) (.slice a1 h6 e1) (.slice none 0 0) (.slice a2 (h6 + 1) e2) (.bool false) (.slice a3 (n.keys.length - (h6 + 1)) e3) (.slice none 0 0) (.slice a4 (n.kids.length - (h6 + 1)) e4)).alloc (.cells #[.bool false, .slice a1 h6 e1, .slice none 0 0, .slice a2 (h6 + 1) e2] 25)).alloc (.cells #[.bool false, .slice a3 (n.keys.length - (h6 + 1)) e3, .slice none 0 0, .slice a4 (n.kids.length - (h6 + 1)) e4] 25)).drew).drew).drew
                    have hd : ∀ k, w.heap.size + 3 ≤ k → ¬ (k = w.heap.size + 1 ∨ k = w.heap.size + 1 + 1) := fun k hk e => by omega
                    have hm : ∀ (W : World) k, k < W.heap.size → w.heap.size + 3 ≤ k → w.heap.size ≤ k := fun W k _ hk => by omega
                    have EE : n.left h6 = ⟨false, n.keys.take h6, [], n.kids.take (h6 + 1)⟩ ∧ n.right h6 = ⟨false, n.keys.drop (h6 + 1), [], n.kids.drop (h6 + 1)⟩ := ⟨by rw [ND.left, if_neg (by rw [HF.out]; decide)], by rw [ND.right, if_neg (by rw [HF.out]; decide)]⟩
                    refine ⟨⟨_, _, _, _, n.left h6, n.right h6, rfl, ?_, ?_, .ok HEND.out.1 h6 (by rw [HEND.out.2.1]; exact HEND.out.2.2) hhL⟩, Below.trans G.bl (hc8.below hB (fun i hi e => by omega))⟩
                    · rw [EE.1]
                      have lk : (n.keys.take h6).length = h6 := by simp; omega
                      have lv : (n.kids.take (h6 + 1)).length = h6 + 1 := by have := HV.out.1; simp; omega
                      refine ⟨a1, e1, none, 0, a2, e2, by simp only [nodeV, lk, lv, List.length_nil], ?_, (SlAt.nil _ _ 9 1 _).rd, ?_⟩
                      · show RdAt _ _ 1 (.slice a1 (n.keys.take h6).length e1) (n.keys.take h6).length _
                        rw [lk]; exact (RdAt.chg r1 hc8 hd).mono (hm _)
                      · show RdAt _ _ 1 (.slice a2 (n.kids.take (h6 + 1)).length e2) (n.kids.take (h6 + 1)).length _
                        rw [lv]; exact (RdAt.chg r2 hc8 hd).mono (hm _)
                    · rw [EE.2]
                      have lk : (n.keys.drop (h6 + 1)).length = n.keys.length - (h6 + 1) := by simp
                      have lv : (n.kids.drop (h6 + 1)).length = n.kids.length - (h6 + 1) := by simp
                      refine ⟨a3, e3, none, 0, a4, e4, by simp only [nodeV, lk, lv, List.length_nil], ?_, (SlAt.nil _ _ 9 1 _).rd, ?_⟩
                      · show RdAt _ _ 1 (.slice a3 (n.keys.drop (h6 + 1)).length e3) (n.keys.drop (h6 + 1)).length _
                        rw [lk]; exact (RdAt.chg r3 hc8 hd).mono (hm _)
                      · show RdAt _ _ 1 (.slice a4 (n.kids.drop (h6 + 1)).length e4) (n.kids.drop (h6 + 1)).length _
                        rw [lv]; exact (RdAt.chg r4 hc8 hd).mono (hm _)
theorem rsplit_any (w : World) (own : Nat → Prop) (v : Value) (n : ND) (hv : NodeAt w own v n) (sm : n.Small) (ln : n.Lens) :
    Calls Try.prog 11 #[v] w fun e w' => SplitTells w n e w' ∧ Bl w w' := by
  by_cases hc : n.check = 0
  · cases hf : n.leaf with
    | true =>
      by_cases h : n.keys.length < 2
      · exact rsplit_few_true w own v n hv sm ln hf hc h
      · exact rsplit_ok w own v n hv sm ln hc (.inl ⟨hf, by omega⟩)
    | false =>
      by_cases h : n.keys.length < 3
      · exact rsplit_few_false w own v n hv sm ln hf hc h
      · exact rsplit_ok w own v n hv sm ln hc (.inr ⟨hf, by omega⟩)
  · exact rsplit_bad w own v n hv sm ln hc
end Go.Proofs.Ytjdkalimaldofaa
