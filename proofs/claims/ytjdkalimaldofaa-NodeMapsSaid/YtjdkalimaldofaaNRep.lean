/-
  Nodes as they lie in memory, and as plain data; sameTexts and Same of equals.
-/
import Derived.Test.YtjdkalimaldofaaSub
import Derived.Deep.RegionHeld3
namespace Go.Proofs.Ytjdkalimaldofaa
open Go.RowKit
set_option linter.unusedSimpArgs false
set_option linter.unusedVariables false

theorem SlAt.shape {w : World} {own : Nat → Prop} {e : TypeId} {size : Nat} {v : Value} {n : Nat} {xs : List Value} (h : SlAt w own e size v n xs) : ∃ a cap, v = .slice a n cap := by
  obtain ⟨h1, h2⟩ := h
  rcases h2 with ⟨a, rfl, rfl⟩ | ⟨g, off, cap, cur, rfl, _⟩
  · exact ⟨a, 0, rfl⟩
  · exact ⟨_, cap, rfl⟩
/-- from a to b: only new blocks -/
abbrev Bl (a b : World) : Prop := Below a.heap.size a b
theorem Bl.refl (a : World) : Bl a a := Below.refl _ _
theorem Bl.trans {a b c : World} (h : Bl a b) (k : Bl b c) : Bl a c := Below.trans h (Below.mono k h.size)
theorem Bl.alloc {a b : World} (h : Bl a b) (o : Obj) : Bl a (b.alloc o) := Below.alloc h h.size o
theorem Bl.drew {a b : World} (h : Bl a b) : Bl a b.drew := Below.drew h

/-- a node -/
structure ND where
  leaf : Bool
  keys : List ByteArray
  values : List ByteArray
  kids : List Int
def tcells (l : List ByteArray) : List Value := l.map Value.string
def icells (l : List Int) : List Value := l.map (Value.int .i64)
theorem tcells_get {l : List ByteArray} {k : Nat} (h : k < l.length) : (tcells l)[k]? = some (.string l[k]) := by simp [tcells, h]
theorem icells_get {l : List Int} {k : Nat} (h : k < l.length) : (icells l)[k]? = some (.int .i64 l[k]) := by simp [icells, h]
theorem tcells_one (l : List ByteArray) : ∀ u ∈ tcells l, u.oneCell' = true := by
  intro u hu
  simp only [tcells, List.mem_map] at hu
  obtain ⟨x, _, rfl⟩ := hu
  rfl
theorem icells_one (l : List Int) : ∀ u ∈ icells l, u.oneCell' = true := by
  intro u hu
  simp only [icells, List.mem_map] at hu
  obtain ⟨x, _, rfl⟩ := hu
  rfl
def TxtAt (w : World) (own : Nat → Prop) (v : Value) (l : List ByteArray) : Prop := RdAt w own 1 v l.length (tcells l)
def IntsAt (w : World) (own : Nat → Prop) (v : Value) (l : List Int) : Prop := RdAt w own 1 v l.length (icells l)
/-- a node's value -/
def nodeV (n : ND) (ka : Option Addr) (kc : Nat) (va : Option Addr) (vc : Nat) (ia : Option Addr) (ic : Nat) : Value :=
  .agg #[.bool n.leaf, .slice ka n.keys.length kc, .slice va n.values.length vc, .slice ia n.kids.length ic]
structure NodeIn (w : World) (own : Nat → Prop) (n : ND) (ka : Option Addr) (kc : Nat) (va : Option Addr) (vc : Nat) (ia : Option Addr) (ic : Nat) : Prop where
  keys : TxtAt w own (.slice ka n.keys.length kc) n.keys
  values : TxtAt w own (.slice va n.values.length vc) n.values
  kids : IntsAt w own (.slice ia n.kids.length ic) n.kids
def NodeAt (w : World) (own : Nat → Prop) (v : Value) (n : ND) : Prop := ∃ ka kc va vc ia ic, v = nodeV n ka kc va vc ia ic ∧ NodeIn w own n ka kc va vc ia ic
theorem NodeIn.below {w w' : World} {own : Nat → Prop} {n : ND} {ka : Option Addr} {kc : Nat} {va : Option Addr} {vc : Nat} {ia : Option Addr} {ic : Nat} (h : NodeIn w own n ka kc va vc ia ic) (k : Bl w w') : NodeIn w' own n ka kc va vc ia ic :=
  ⟨RdAt.below h.keys k, RdAt.below h.values k, RdAt.below h.kids k⟩
theorem NodeAt.below {w w' : World} {own : Nat → Prop} {v : Value} {n : ND} (h : NodeAt w own v n) (k : Bl w w') : NodeAt w' own v n := by
  obtain ⟨ka, kc, va, vc, ia, ic, e, h⟩ := h
  exact ⟨ka, kc, va, vc, ia, ic, e, h.below k⟩
/-- a node's box -/
def nbox (n : ND) (ka : Option Addr) (kc : Nat) (va : Option Addr) (vc : Nat) (ia : Option Addr) (ic : Nat) : Array Value :=
  #[.bool n.leaf, .slice ka n.keys.length kc, .slice va n.values.length vc, .slice ia n.kids.length ic]

set_option maxHeartbeats 400000 in
theorem same_texts (w : World) (own own2 : Nat → Prop) (v u : Value) (l : List ByteArray) (hl : TxtAt w own v l) (hm : TxtAt w own2 u l) :
    Calls Try.prog 30 #[v, u] w fun e w' => e = .returned (.bool true) ∧ Bl w w' := by
  obtain ⟨a, cap, rfl, hmax⟩ := RdAt.shape hl
  obtain ⟨a2, cap2, rfl, hmax2⟩ := RdAt.shape hm
  unfold maxLen at hmax hmax2
  go_enter Try.func30, Try.ntmps30
  go_wp2
  go_loopw [5] (fun i wr => ∃ k : Nat, k ≤ l.length ∧ i = .int .i64 k ∧ Bl w wr) (fun i _ => l.length - (intOf i).toNat)
  case atStart => exact ⟨0, by omega, rfl, Bl.refl _⟩
  case round =>
    obtain ⟨k, hk, rfl, hbw⟩ := hrel
    by_cases hlt : k < l.length
    · obtain ⟨g, off, rfl, _, hg, hc⟩ := (RdAt.below hl hbw).get (by omega)
      obtain ⟨g2, off2, rfl, _, hg2, hc2⟩ := (RdAt.below hm hbw).get (by omega)
      have c1 := hc k _ (tcells_get hlt)
      have c2 := hc2 k _ (tcells_get hlt)
      have i0 : (0 : Int) ≤ (k : Int) := by omega
      have i1 : (k : Int) < (l.length : Int) := by omega
      clear hc hc2
      go_wp2
      go_region
      all_goals go_wp2
      all_goals go_roundw
      all_goals first | (case rel => exact ⟨k + 1, by omega, by go_num, hbw.drew⟩) | (case measure => simp [intOf]; omega)
    · obtain rfl : k = l.length := by omega
      go_wp2
      go_ret
      exact ⟨rfl, hbw⟩

set_option maxHeartbeats 1000000 in
theorem same_nodes (w : World) (own own2 : Nat → Prop) (v u : Value) (n : ND) (hv : NodeAt w own v n) (hu : NodeAt w own2 u n) :
    Calls Try.prog 12 #[v, u] w fun e w' => e = .returned (.bool true) ∧ Bl w w' := by
  obtain ⟨ka, kc, va, vc, ia, ic, rfl, h⟩ := hv
  obtain ⟨ka2, kc2, va2, vc2, ia2, ic2, rfl, h2⟩ := hu
  have kB : Bl w ((w.alloc (.cells (nbox n ka kc va vc ia ic) 25)).alloc (.cells (nbox n ka2 kc2 va2 vc2 ia2 ic2) 25)) := ((Bl.refl w).alloc _).alloc _
  have b1 : ((w.alloc (.cells (nbox n ka kc va vc ia ic) 25)).alloc (.cells (nbox n ka2 kc2 va2 vc2 ia2 ic2) 25)).heap[w.heap.size]? = some (.cells (nbox n ka kc va vc ia ic) 25 (0, 0)) := block_old _ (block_new _ _)
  have b2 : ((w.alloc (.cells (nbox n ka kc va vc ia ic) 25)).alloc (.cells (nbox n ka2 kc2 va2 vc2 ia2 ic2) 25)).heap[w.heap.size + 1]? = some (.cells (nbox n ka2 kc2 va2 vc2 ia2 ic2) 25 (0, 0)) := by
    have := block_new (w.alloc (.cells (nbox n ka kc va vc ia ic) 25)) (.cells (nbox n ka2 kc2 va2 vc2 ia2 ic2) 25)
    simpa using this
  have hA := h.below kB
  have hB := h2.below kB
  obtain ⟨_, _, _, hmax⟩ := RdAt.shape h.kids
  unfold maxLen at hmax
  unfold nodeV
  go_enter Try.func12, Try.ntmps12
  go_wp2_with fail
  refine (same_texts _ _ _ _ _ n.keys hA.keys hB.keys).mono ?_
  rintro e w3 ⟨rfl, k3⟩
  have b13 := below_keeps k3 b1 (lt_of_block b1)
  have b23 := below_keeps k3 b2 (lt_of_block b2)
  have x2 : w3.cell? ⟨w.heap.size, 2, none⟩ = some (.slice va n.values.length vc) := (cell_of_block b13 2).trans rfl
  have y2 : w3.cell? ⟨w.heap.size + 1, 2, none⟩ = some (.slice va2 n.values.length vc2) := (cell_of_block b23 2).trans rfl
  go_wp2_with fail
  refine (same_texts _ _ _ _ _ n.values (RdAt.below hA.values k3) (RdAt.below hB.values k3)).mono ?_
  rintro e w4 ⟨rfl, k4⟩
  have b14 := below_keeps k4 b13 (lt_of_block b13)
  have b24 := below_keeps k4 b23 (lt_of_block b23)
  have x3 : w4.cell? ⟨w.heap.size, 3, none⟩ = some (.slice ia n.kids.length ic) := (cell_of_block b14 3).trans rfl
  have y3 : w4.cell? ⟨w.heap.size + 1, 3, none⟩ = some (.slice ia2 n.kids.length ic2) := (cell_of_block b24 3).trans rfl
  have r1 := RdAt.below (RdAt.below hA.kids k3) k4
  have r2 := RdAt.below (RdAt.below hB.kids k3) k4
  have k04 : Bl w w4 := (kB.trans k3).trans k4
  go_wp2_with fail
  clear b1 b2 hA hB b13 b23 x2 y2 k3 k4 kB h h2
  go_loopw [5] (fun i wr => ∃ k : Nat, k ≤ n.kids.length ∧ i = .int .i64 k ∧ Bl w4 wr) (fun i _ => n.kids.length - (intOf i).toNat)
  case atStart => exact ⟨0, by omega, rfl, Bl.refl _⟩
  case round =>
    obtain ⟨k, hk, rfl, hbw⟩ := hrel
    have z3 := (hbw.cell (p := ⟨w.heap.size, 3, none⟩) (cell_lt x3)).trans x3
    have u3 := (hbw.cell (p := ⟨w.heap.size + 1, 3, none⟩) (cell_lt y3)).trans y3
    by_cases hlt : k < n.kids.length
    · obtain ⟨g, off, rfl, _, hg, hc⟩ := (RdAt.below r1 hbw).get (by omega)
      obtain ⟨g2, off2, rfl, _, hg2, hc2⟩ := (RdAt.below r2 hbw).get (by omega)
      have c1 := hc k _ (icells_get hlt)
      have c2 := hc2 k _ (icells_get hlt)
      have i0 : (0 : Int) ≤ (k : Int) := by omega
      have i1 : (k : Int) < (n.kids.length : Int) := by omega
      clear hc hc2
      go_wp2
      go_region
      all_goals go_wp2
      all_goals go_roundw
      all_goals first | (case rel => exact ⟨k + 1, by omega, by go_num, hbw.drew⟩) | (case measure => simp [intOf]; omega)
    · obtain rfl : k = n.kids.length := by omega
      go_wp2
      go_ret
      exact ⟨rfl, k04.trans hbw⟩
end Go.Proofs.Ytjdkalimaldofaa
