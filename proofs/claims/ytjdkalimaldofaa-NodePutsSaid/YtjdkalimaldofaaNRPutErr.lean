/-
  Put where it refuses: the document's.
-/
import Derived.Test.YtjdkalimaldofaaNCheck
import Derived.Test.YtjdkalimaldofaaNIns
namespace Go.Proofs.Ytjdkalimaldofaa
open Go.RowKit
set_option linter.unusedSimpArgs false
set_option linter.unusedVariables false
set_option maxRecDepth 100000 in
set_option maxHeartbeats 1000000 in
theorem rput_unfit (w : World) (own : Nat → Prop) (v : Value) (n : ND) (key value : ByteArray) (hv : NodeAt w own v n) (sm : n.Small) (ln : n.Lens) (hck : n.check ≠ 0) :
    Calls Try.prog 26 #[v, .string key, .string value] w fun e w' => (∃ u, e = .returned (.tuple #[u, .int .i64 90]) ∧ NodeAt w' (fun j => w.heap.size ≤ j) u .empty) ∧ Bl w w' := by
  have hv' := hv
  obtain ⟨ka, kc, va, vc, ia, ic, rfl, h⟩ := hv
  unfold nodeV
  unfold nodeV at hv'
  have kB : Bl w ((w.alloc (.cells #[.bool n.leaf, .slice ka n.keys.length kc, .slice va n.values.length vc, .slice ia n.kids.length ic] 25)).alloc (.cells #[.bool false, .slice none 0 0, .slice none 0 0, .slice none 0 0] 25)) := ((Bl.refl w).alloc _).alloc _
  have b3 : ((w.alloc (.cells #[.bool n.leaf, .slice ka n.keys.length kc, .slice va n.values.length vc, .slice ia n.kids.length ic] 25)).alloc (.cells #[.bool false, .slice none 0 0, .slice none 0 0, .slice none 0 0] 25)).heap[w.heap.size]? = some (.cells #[.bool n.leaf, .slice ka n.keys.length kc, .slice va n.values.length vc, .slice ia n.kids.length ic] 25 (0, 0)) := block_old _ (block_new _ _)
  have b6 : ((w.alloc (.cells #[.bool n.leaf, .slice ka n.keys.length kc, .slice va n.values.length vc, .slice ia n.kids.length ic] 25)).alloc (.cells #[.bool false, .slice none 0 0, .slice none 0 0, .slice none 0 0] 25)).heap[w.heap.size + 1]? = some (.cells #[.bool false, .slice none 0 0, .slice none 0 0, .slice none 0 0] 25 (0, 0)) := block_new' _ (by simp)
  have hA := hv'.bl kB
  clear h
  obtain ⟨x0, x1, x2, x3, -⟩ := cells4 b3
  go_enter Try.func26, Try.ntmps26
  go_wp2_with fail
  generalize (w.alloc (.cells #[.bool n.leaf, .slice ka n.keys.length kc, .slice va n.values.length vc, .slice ia n.kids.length ic] 25)).alloc (.cells #[.bool false, .slice none 0 0, .slice none 0 0, .slice none 0 0] 25) = W1 at *
  have hcb : (n.check != 0) = true := by simpa using hck
  have HC : Hid (n.check = n.check) := rfl
  refine (rcheck_any _ _ _ n hA sm ln).mono ?_
  rw [HC.out]
  rintro e w2 ⟨rfl, k2⟩
  have b32 := below_keeps k2 b3 (lt_of_block b3)
  have b62 := below_keeps k2 b6 (lt_of_block b6)
  clear x0 x1 x2 x3 b6 b3
  obtain ⟨x0, x1, x2, x3, -⟩ := cells4 b32
  obtain ⟨y0, y1, y2, y3, f0, f1, f2, f3⟩ := cells4 b62
  go_wp2_with fail
  have hc4 := chg4 (Bl.refl w2) (w.heap.size + 1) (.bool false) (.slice none 0 0) (.slice none 0 0) (.slice none 0 0)
  refine bodyPost_ret (v := .tuple #[.agg #[.bool false, .slice none 0 0, .slice none 0 0, .slice none 0 0], .int .i64 90]) (by simp [results, Try.results26, go_sem, *]) rfl ?_
  exact ⟨⟨_, rfl, NodeAt.empty _ _⟩, (kB.trans k2).chg hc4 (fun i hi e => by omega)⟩
set_option maxRecDepth 100000 in
set_option maxHeartbeats 1000000 in
theorem rput_inner (w : World) (own : Nat → Prop) (v : Value) (n : ND) (key value : ByteArray) (hv : NodeAt w own v n) (sm : n.Small) (ln : n.Lens) (hck : n.check = 0) (hf : n.leaf = false) :
    Calls Try.prog 26 #[v, .string key, .string value] w fun e w' => (∃ u, e = .returned (.tuple #[u, .int .i64 90]) ∧ NodeAt w' (fun j => w.heap.size ≤ j) u .empty) ∧ Bl w w' := by
  have hv' := hv
  obtain ⟨ka, kc, va, vc, ia, ic, rfl, h⟩ := hv
  unfold nodeV
  unfold nodeV at hv'
  rw [hf] at hv' ⊢
  clear hf
  have kB : Bl w ((w.alloc (.cells #[.bool false, .slice ka n.keys.length kc, .slice va n.values.length vc, .slice ia n.kids.length ic] 25)).alloc (.cells #[.bool false, .slice none 0 0, .slice none 0 0, .slice none 0 0] 25)) := ((Bl.refl w).alloc _).alloc _
  have b3 : ((w.alloc (.cells #[.bool false, .slice ka n.keys.length kc, .slice va n.values.length vc, .slice ia n.kids.length ic] 25)).alloc (.cells #[.bool false, .slice none 0 0, .slice none 0 0, .slice none 0 0] 25)).heap[w.heap.size]? = some (.cells #[.bool false, .slice ka n.keys.length kc, .slice va n.values.length vc, .slice ia n.kids.length ic] 25 (0, 0)) := block_old _ (block_new _ _)
  have b6 : ((w.alloc (.cells #[.bool false, .slice ka n.keys.length kc, .slice va n.values.length vc, .slice ia n.kids.length ic] 25)).alloc (.cells #[.bool false, .slice none 0 0, .slice none 0 0, .slice none 0 0] 25)).heap[w.heap.size + 1]? = some (.cells #[.bool false, .slice none 0 0, .slice none 0 0, .slice none 0 0] 25 (0, 0)) := block_new' _ (by simp)
  have hA := hv'.bl kB
  clear h
  obtain ⟨x0, x1, x2, x3, -⟩ := cells4 b3
  go_enter Try.func26, Try.ntmps26
  go_wp2_with fail
  generalize (w.alloc (.cells #[.bool false, .slice ka n.keys.length kc, .slice va n.values.length vc, .slice ia n.kids.length ic] 25)).alloc (.cells #[.bool false, .slice none 0 0, .slice none 0 0, .slice none 0 0] 25) = W1 at *
  have HC := Lib.hid hck
  clear hck
  refine (rcheck_any _ _ _ n hA sm ln).mono ?_
  rw [HC.out]
  rintro e w2 ⟨rfl, k2⟩
  have b32 := below_keeps k2 b3 (lt_of_block b3)
  have b62 := below_keeps k2 b6 (lt_of_block b6)
  clear x0 x1 x2 x3 b6 b3
  obtain ⟨x0, x1, x2, x3, -⟩ := cells4 b32
  obtain ⟨y0, y1, y2, y3, f0, f1, f2, f3⟩ := cells4 b62
  go_wp2_with fail
  have hc4 := chg4 (Bl.refl w2) (w.heap.size + 1) (.bool false) (.slice none 0 0) (.slice none 0 0) (.slice none 0 0)
  refine bodyPost_ret (v := .tuple #[.agg #[.bool false, .slice none 0 0, .slice none 0 0, .slice none 0 0], .int .i64 90]) (by simp [results, Try.results26, go_sem, *]) rfl ?_
  exact ⟨⟨_, rfl, NodeAt.empty _ _⟩, (kB.trans k2).chg hc4 (fun i hi e => by omega)⟩
set_option maxRecDepth 100000 in
set_option maxHeartbeats 1000000 in
theorem rput_short (w : World) (own : Nat → Prop) (v : Value) (n : ND) (key value : ByteArray) (hv : NodeAt w own v n) (sm : n.Small) (ln : n.Lens) (hck : n.check = 0) (hf : n.leaf = true) (hk : (key.size : Int) < 1) :
    Calls Try.prog 26 #[v, .string key, .string value] w fun e w' => (∃ u, e = .returned (.tuple #[u, .int .i64 91]) ∧ NodeAt w' (fun j => w.heap.size ≤ j) u .empty) ∧ Bl w w' := by
  have hv' := hv
  obtain ⟨ka, kc, va, vc, ia, ic, rfl, h⟩ := hv
  unfold nodeV
  unfold nodeV at hv'
  rw [hf] at hv' ⊢
  clear hf
  have kB : Bl w ((w.alloc (.cells #[.bool true, .slice ka n.keys.length kc, .slice va n.values.length vc, .slice ia n.kids.length ic] 25)).alloc (.cells #[.bool false, .slice none 0 0, .slice none 0 0, .slice none 0 0] 25)) := ((Bl.refl w).alloc _).alloc _
  have b3 : ((w.alloc (.cells #[.bool true, .slice ka n.keys.length kc, .slice va n.values.length vc, .slice ia n.kids.length ic] 25)).alloc (.cells #[.bool false, .slice none 0 0, .slice none 0 0, .slice none 0 0] 25)).heap[w.heap.size]? = some (.cells #[.bool true, .slice ka n.keys.length kc, .slice va n.values.length vc, .slice ia n.kids.length ic] 25 (0, 0)) := block_old _ (block_new _ _)
  have b6 : ((w.alloc (.cells #[.bool true, .slice ka n.keys.length kc, .slice va n.values.length vc, .slice ia n.kids.length ic] 25)).alloc (.cells #[.bool false, .slice none 0 0, .slice none 0 0, .slice none 0 0] 25)).heap[w.heap.size + 1]? = some (.cells #[.bool false, .slice none 0 0, .slice none 0 0, .slice none 0 0] 25 (0, 0)) := block_new' _ (by simp)
  have hA := hv'.bl kB
  clear h
  obtain ⟨x0, x1, x2, x3, -⟩ := cells4 b3
  go_enter Try.func26, Try.ntmps26
  go_wp2_with fail
  generalize (w.alloc (.cells #[.bool true, .slice ka n.keys.length kc, .slice va n.values.length vc, .slice ia n.kids.length ic] 25)).alloc (.cells #[.bool false, .slice none 0 0, .slice none 0 0, .slice none 0 0] 25) = W1 at *
  have HC := Lib.hid hck
  clear hck
  refine (rcheck_any _ _ _ n hA sm ln).mono ?_
  rw [HC.out]
  rintro e w2 ⟨rfl, k2⟩
  have b32 := below_keeps k2 b3 (lt_of_block b3)
  have b62 := below_keeps k2 b6 (lt_of_block b6)
  clear x0 x1 x2 x3 b6 b3
  obtain ⟨x0, x1, x2, x3, -⟩ := cells4 b32
  obtain ⟨y0, y1, y2, y3, f0, f1, f2, f3⟩ := cells4 b62
  go_wp2_with fail
  have hc4 := chg4 (Bl.refl w2) (w.heap.size + 1) (.bool false) (.slice none 0 0) (.slice none 0 0) (.slice none 0 0)
  refine bodyPost_ret (v := .tuple #[.agg #[.bool false, .slice none 0 0, .slice none 0 0, .slice none 0 0], .int .i64 91]) (by simp [results, Try.results26, go_sem, *]) rfl ?_
  exact ⟨⟨_, rfl, NodeAt.empty _ _⟩, (kB.trans k2).chg hc4 (fun i hi e => by omega)⟩
set_option maxRecDepth 100000 in
set_option maxHeartbeats 1000000 in
theorem rput_long (w : World) (own : Nat → Prop) (v : Value) (n : ND) (key value : ByteArray) (hv : NodeAt w own v n) (sm : n.Small) (ln : n.Lens) (hck : n.check = 0) (hf : n.leaf = true) (hk0 : ¬ (key.size : Int) < 1) (hk : (64 : Int) < (key.size : Int)) :
    Calls Try.prog 26 #[v, .string key, .string value] w fun e w' => (∃ u, e = .returned (.tuple #[u, .int .i64 91]) ∧ NodeAt w' (fun j => w.heap.size ≤ j) u .empty) ∧ Bl w w' := by
  have hv' := hv
  obtain ⟨ka, kc, va, vc, ia, ic, rfl, h⟩ := hv
  unfold nodeV
  unfold nodeV at hv'
  rw [hf] at hv' ⊢
  clear hf
  have kB : Bl w ((w.alloc (.cells #[.bool true, .slice ka n.keys.length kc, .slice va n.values.length vc, .slice ia n.kids.length ic] 25)).alloc (.cells #[.bool false, .slice none 0 0, .slice none 0 0, .slice none 0 0] 25)) := ((Bl.refl w).alloc _).alloc _
  have b3 : ((w.alloc (.cells #[.bool true, .slice ka n.keys.length kc, .slice va n.values.length vc, .slice ia n.kids.length ic] 25)).alloc (.cells #[.bool false, .slice none 0 0, .slice none 0 0, .slice none 0 0] 25)).heap[w.heap.size]? = some (.cells #[.bool true, .slice ka n.keys.length kc, .slice va n.values.length vc, .slice ia n.kids.length ic] 25 (0, 0)) := block_old _ (block_new _ _)
  have b6 : ((w.alloc (.cells #[.bool true, .slice ka n.keys.length kc, .slice va n.values.length vc, .slice ia n.kids.length ic] 25)).alloc (.cells #[.bool false, .slice none 0 0, .slice none 0 0, .slice none 0 0] 25)).heap[w.heap.size + 1]? = some (.cells #[.bool false, .slice none 0 0, .slice none 0 0, .slice none 0 0] 25 (0, 0)) := block_new' _ (by simp)
  have hA := hv'.bl kB
  clear h
  obtain ⟨x0, x1, x2, x3, -⟩ := cells4 b3
  go_enter Try.func26, Try.ntmps26
  go_wp2_with fail
  generalize (w.alloc (.cells #[.bool true, .slice ka n.keys.length kc, .slice va n.values.length vc, .slice ia n.kids.length ic] 25)).alloc (.cells #[.bool false, .slice none 0 0, .slice none 0 0, .slice none 0 0] 25) = W1 at *
  have HC := Lib.hid hck
  clear hck
  refine (rcheck_any _ _ _ n hA sm ln).mono ?_
  rw [HC.out]
  rintro e w2 ⟨rfl, k2⟩
  have b32 := below_keeps k2 b3 (lt_of_block b3)
  have b62 := below_keeps k2 b6 (lt_of_block b6)
  clear x0 x1 x2 x3 b6 b3
  obtain ⟨x0, x1, x2, x3, -⟩ := cells4 b32
  obtain ⟨y0, y1, y2, y3, f0, f1, f2, f3⟩ := cells4 b62
  go_wp2_with fail
  have hc4 := chg4 (Bl.refl w2) (w.heap.size + 1) (.bool false) (.slice none 0 0) (.slice none 0 0) (.slice none 0 0)
  refine bodyPost_ret (v := .tuple #[.agg #[.bool false, .slice none 0 0, .slice none 0 0, .slice none 0 0], .int .i64 91]) (by simp [results, Try.results26, go_sem, *]) rfl ?_
  exact ⟨⟨_, rfl, NodeAt.empty _ _⟩, (kB.trans k2).chg hc4 (fun i hi e => by omega)⟩
set_option maxRecDepth 100000 in
set_option maxHeartbeats 1000000 in
theorem rput_wide (w : World) (own : Nat → Prop) (v : Value) (n : ND) (key value : ByteArray) (hv : NodeAt w own v n) (sm : n.Small) (ln : n.Lens) (hck : n.check = 0) (hf : n.leaf = true) (hk0 : ¬ (key.size : Int) < 1) (hk1 : ¬ (64 : Int) < (key.size : Int)) (hk : (64 : Int) < (value.size : Int)) :
    Calls Try.prog 26 #[v, .string key, .string value] w fun e w' => (∃ u, e = .returned (.tuple #[u, .int .i64 91]) ∧ NodeAt w' (fun j => w.heap.size ≤ j) u .empty) ∧ Bl w w' := by
  have hv' := hv
  obtain ⟨ka, kc, va, vc, ia, ic, rfl, h⟩ := hv
  unfold nodeV
  unfold nodeV at hv'
  rw [hf] at hv' ⊢
  clear hf
  have kB : Bl w ((w.alloc (.cells #[.bool true, .slice ka n.keys.length kc, .slice va n.values.length vc, .slice ia n.kids.length ic] 25)).alloc (.cells #[.bool false, .slice none 0 0, .slice none 0 0, .slice none 0 0] 25)) := ((Bl.refl w).alloc _).alloc _
  have b3 : ((w.alloc (.cells #[.bool true, .slice ka n.keys.length kc, .slice va n.values.length vc, .slice ia n.kids.length ic] 25)).alloc (.cells #[.bool false, .slice none 0 0, .slice none 0 0, .slice none 0 0] 25)).heap[w.heap.size]? = some (.cells #[.bool true, .slice ka n.keys.length kc, .slice va n.values.length vc, .slice ia n.kids.length ic] 25 (0, 0)) := block_old _ (block_new _ _)
  have b6 : ((w.alloc (.cells #[.bool true, .slice ka n.keys.length kc, .slice va n.values.length vc, .slice ia n.kids.length ic] 25)).alloc (.cells #[.bool false, .slice none 0 0, .slice none 0 0, .slice none 0 0] 25)).heap[w.heap.size + 1]? = some (.cells #[.bool false, .slice none 0 0, .slice none 0 0, .slice none 0 0] 25 (0, 0)) := block_new' _ (by simp)
  have hA := hv'.bl kB
  clear h
  obtain ⟨x0, x1, x2, x3, -⟩ := cells4 b3
  go_enter Try.func26, Try.ntmps26
  go_wp2_with fail
  generalize (w.alloc (.cells #[.bool true, .slice ka n.keys.length kc, .slice va n.values.length vc, .slice ia n.kids.length ic] 25)).alloc (.cells #[.bool false, .slice none 0 0, .slice none 0 0, .slice none 0 0] 25) = W1 at *
  have HC := Lib.hid hck
  clear hck
  refine (rcheck_any _ _ _ n hA sm ln).mono ?_
  rw [HC.out]
  rintro e w2 ⟨rfl, k2⟩
  have b32 := below_keeps k2 b3 (lt_of_block b3)
  have b62 := below_keeps k2 b6 (lt_of_block b6)
  clear x0 x1 x2 x3 b6 b3
  obtain ⟨x0, x1, x2, x3, -⟩ := cells4 b32
  obtain ⟨y0, y1, y2, y3, f0, f1, f2, f3⟩ := cells4 b62
  go_wp2_with fail
  have hc4 := chg4 (Bl.refl w2) (w.heap.size + 1) (.bool false) (.slice none 0 0) (.slice none 0 0) (.slice none 0 0)
  refine bodyPost_ret (v := .tuple #[.agg #[.bool false, .slice none 0 0, .slice none 0 0, .slice none 0 0], .int .i64 91]) (by simp [results, Try.results26, go_sem, *]) rfl ?_
  exact ⟨⟨_, rfl, NodeAt.empty _ _⟩, (kB.trans k2).chg hc4 (fun i hi e => by omega)⟩
end Go.Proofs.Ytjdkalimaldofaa
