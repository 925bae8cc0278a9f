/-
  Put where it refuses: the program's.
-/
import Derived.Test.YthmimbmlcihkaaaGreatNPut
namespace Go.Proofs.YthmimbmlcihkaaaGreat
open Go.RowKit
set_option linter.unusedSimpArgs false
set_option linter.unusedVariables false
set_option maxRecDepth 100000
set_option maxRecDepth 100000 in
set_option maxHeartbeats 1000000 in
theorem put_inner (w : World) (own : Nat → Prop) (v : Value) (n : ND) (key value : ByteArray) (hv : NodeAt w own v n) (sm : n.Small) (ln : n.Lens) (hkz : key.size ≤ 9223372036854775807) (hxz : value.size ≤ 9223372036854775807) (hf : n.leaf = false) :
    Calls Tryz.prog 26 #[v, .string key, .string value] w fun e w' => (∃ u, e = .returned (.tuple #[u, .int .i64 90]) ∧ OwnNode w' w.heap.size u .empty) ∧ Bl w w' := by
  have hv' := hv
  obtain ⟨ka, kc, va, vc, ia, ic, rfl, h⟩ := hv
  unfold nodeV
  unfold nodeV at hv'
  rw [hf] at hv' ⊢
  have kB : Bl w ((w.alloc (.cells #[.bool false, .slice ka n.keys.length kc, .slice va n.values.length vc, .slice ia n.kids.length ic] 61)).alloc (.cells #[.bool false, .slice none 0 0, .slice none 0 0, .slice none 0 0] 61)) := ((Bl.refl w).alloc _).alloc _
  have b3 : ((w.alloc (.cells #[.bool false, .slice ka n.keys.length kc, .slice va n.values.length vc, .slice ia n.kids.length ic] 61)).alloc (.cells #[.bool false, .slice none 0 0, .slice none 0 0, .slice none 0 0] 61)).heap[w.heap.size]? = some (.cells #[.bool false, .slice ka n.keys.length kc, .slice va n.values.length vc, .slice ia n.kids.length ic] 61 (0, 0)) := block_old _ (block_new _ _)
  have b6 : ((w.alloc (.cells #[.bool false, .slice ka n.keys.length kc, .slice va n.values.length vc, .slice ia n.kids.length ic] 61)).alloc (.cells #[.bool false, .slice none 0 0, .slice none 0 0, .slice none 0 0] 61)).heap[w.heap.size + 1]? = some (.cells #[.bool false, .slice none 0 0, .slice none 0 0, .slice none 0 0] 61 (0, 0)) := block_new' _ (by simp)
  have hA := hv'.bl kB
  clear h hf
  obtain ⟨x0, x1, x2, x3, -⟩ := cells4 b3
  obtain ⟨y0, y1, y2, y3, f0, f1, f2, f3⟩ := cells4 b6
  go_enter Tryz.func26, Tryz.ntmps26
  go_wp2_with fail
  refine bodyPost_ret (v := .tuple #[.agg #[.bool false, .slice none 0 0, .slice none 0 0, .slice none 0 0], .int .i64 90]) (by simp [results, Tryz.results25, go_sem, *]) rfl ?_
  exact ⟨⟨_, rfl, OwnNode.empty _ _⟩, kB⟩
set_option maxRecDepth 100000 in
set_option maxHeartbeats 1000000 in
theorem put_unfit (w : World) (own : Nat → Prop) (v : Value) (n : ND) (key value : ByteArray) (hv : NodeAt w own v n) (sm : n.Small) (ln : n.Lens) (hkz : key.size ≤ 9223372036854775807) (hxz : value.size ≤ 9223372036854775807) (hf : n.leaf = true) (hck : n.check ≠ 0) :
    Calls Tryz.prog 26 #[v, .string key, .string value] w fun e w' => (∃ u, e = .returned (.tuple #[u, .int .i64 90]) ∧ OwnNode w' w.heap.size u .empty) ∧ Bl w w' := by
  have hv' := hv
  obtain ⟨ka, kc, va, vc, ia, ic, rfl, h⟩ := hv
  unfold nodeV
  unfold nodeV at hv'
  rw [hf] at hv' ⊢
  have kB : Bl w ((w.alloc (.cells #[.bool true, .slice ka n.keys.length kc, .slice va n.values.length vc, .slice ia n.kids.length ic] 61)).alloc (.cells #[.bool false, .slice none 0 0, .slice none 0 0, .slice none 0 0] 61)) := ((Bl.refl w).alloc _).alloc _
  have b3 : ((w.alloc (.cells #[.bool true, .slice ka n.keys.length kc, .slice va n.values.length vc, .slice ia n.kids.length ic] 61)).alloc (.cells #[.bool false, .slice none 0 0, .slice none 0 0, .slice none 0 0] 61)).heap[w.heap.size]? = some (.cells #[.bool true, .slice ka n.keys.length kc, .slice va n.values.length vc, .slice ia n.kids.length ic] 61 (0, 0)) := block_old _ (block_new _ _)
  have b6 : ((w.alloc (.cells #[.bool true, .slice ka n.keys.length kc, .slice va n.values.length vc, .slice ia n.kids.length ic] 61)).alloc (.cells #[.bool false, .slice none 0 0, .slice none 0 0, .slice none 0 0] 61)).heap[w.heap.size + 1]? = some (.cells #[.bool false, .slice none 0 0, .slice none 0 0, .slice none 0 0] 61 (0, 0)) := block_new' _ (by simp)
  have hA := hv'.bl kB
  clear h hf
  obtain ⟨x0, x1, x2, x3, -⟩ := cells4 b3
  obtain ⟨y0, y1, y2, y3, f0, f1, f2, f3⟩ := cells4 b6
  go_enter Tryz.func26, Tryz.ntmps26
  go_wp2_with fail
  generalize hW1 : (w.alloc (.cells #[.bool true, .slice ka n.keys.length kc, .slice va n.values.length vc, .slice ia n.kids.length ic] 61)).alloc (.cells #[.bool false, .slice none 0 0, .slice none 0 0, .slice none 0 0] 61) = W1 at *
  clear hW1
  have hcb : (n.check != 0) = true := by simpa using hck
  refine (check_any _ _ _ n hA sm ln).mono ?_
  rintro e w2 ⟨rfl, k2⟩
  have b62 := below_keeps k2 b6 (lt_of_block b6)
  clear x0 x1 x2 x3 y0 y1 y2 y3 f0 f1 f2 f3 b6 b3
  obtain ⟨y0, y1, y2, y3, f0, f1, f2, f3⟩ := cells4 b62
  go_wp2_with fail
  have hc4 := chg4 (Bl.refl w2) (w.heap.size + 1) (.bool false) (.slice none 0 0) (.slice none 0 0) (.slice none 0 0)
  refine bodyPost_ret (v := .tuple #[.agg #[.bool false, .slice none 0 0, .slice none 0 0, .slice none 0 0], .int .i64 90]) (by simp [results, Tryz.results25, go_sem, *]) rfl ?_
  exact ⟨⟨_, rfl, OwnNode.empty _ _⟩, (kB.trans k2).chg hc4 (fun i hi e => by omega)⟩
set_option maxRecDepth 100000 in
set_option maxHeartbeats 1000000 in
theorem put_badkey (w : World) (own : Nat → Prop) (v : Value) (n : ND) (key value : ByteArray) (hv : NodeAt w own v n) (sm : n.Small) (ln : n.Lens) (hkz : key.size ≤ 9223372036854775807) (hxz : value.size ≤ 9223372036854775807) (hf : n.leaf = true) (hck : n.check = 0) (hk : keyOk key = false) :
    Calls Tryz.prog 26 #[v, .string key, .string value] w fun e w' => (∃ u, e = .returned (.tuple #[u, .int .i64 91]) ∧ OwnNode w' w.heap.size u .empty) ∧ Bl w w' := by
  have hv' := hv
  obtain ⟨ka, kc, va, vc, ia, ic, rfl, h⟩ := hv
  unfold nodeV
  unfold nodeV at hv'
  rw [hf] at hv' ⊢
  have kB : Bl w ((w.alloc (.cells #[.bool true, .slice ka n.keys.length kc, .slice va n.values.length vc, .slice ia n.kids.length ic] 61)).alloc (.cells #[.bool false, .slice none 0 0, .slice none 0 0, .slice none 0 0] 61)) := ((Bl.refl w).alloc _).alloc _
  have b3 : ((w.alloc (.cells #[.bool true, .slice ka n.keys.length kc, .slice va n.values.length vc, .slice ia n.kids.length ic] 61)).alloc (.cells #[.bool false, .slice none 0 0, .slice none 0 0, .slice none 0 0] 61)).heap[w.heap.size]? = some (.cells #[.bool true, .slice ka n.keys.length kc, .slice va n.values.length vc, .slice ia n.kids.length ic] 61 (0, 0)) := block_old _ (block_new _ _)
  have b6 : ((w.alloc (.cells #[.bool true, .slice ka n.keys.length kc, .slice va n.values.length vc, .slice ia n.kids.length ic] 61)).alloc (.cells #[.bool false, .slice none 0 0, .slice none 0 0, .slice none 0 0] 61)).heap[w.heap.size + 1]? = some (.cells #[.bool false, .slice none 0 0, .slice none 0 0, .slice none 0 0] 61 (0, 0)) := block_new' _ (by simp)
  have hA := hv'.bl kB
  clear h hf
  obtain ⟨x0, x1, x2, x3, -⟩ := cells4 b3
  obtain ⟨y0, y1, y2, y3, f0, f1, f2, f3⟩ := cells4 b6
  go_enter Tryz.func26, Tryz.ntmps26
  go_wp2_with fail
  generalize hW1 : (w.alloc (.cells #[.bool true, .slice ka n.keys.length kc, .slice va n.values.length vc, .slice ia n.kids.length ic] 61)).alloc (.cells #[.bool false, .slice none 0 0, .slice none 0 0, .slice none 0 0] 61) = W1 at *
  clear hW1
  have HCK := Lib.hid hck
  clear hck
  refine (check_any _ _ _ n hA sm ln).mono ?_
  rw [HCK.out]
  rintro e w2 ⟨rfl, k2⟩
  have b62 := below_keeps k2 b6 (lt_of_block b6)
  clear x0 x1 x2 x3 y0 y1 y2 y3 f0 f1 f2 f3 b6 b3
  obtain ⟨y0, y1, y2, y3, f0, f1, f2, f3⟩ := cells4 b62
  go_wp2_with fail
  refine (keyRight_any _ key hkz).mono ?_
  rintro e w3 ⟨rfl, hw3⟩
  subst hw3
  rw [hk]
  go_wp2_with fail
  have hc4 := chg4 (Bl.refl w2) (w.heap.size + 1) (.bool false) (.slice none 0 0) (.slice none 0 0) (.slice none 0 0)
  refine bodyPost_ret (v := .tuple #[.agg #[.bool false, .slice none 0 0, .slice none 0 0, .slice none 0 0], .int .i64 91]) (by simp [results, Tryz.results25, go_sem, *]) rfl ?_
  exact ⟨⟨_, rfl, OwnNode.empty _ _⟩, (kB.trans k2).chg hc4 (fun i hi e => by omega)⟩
set_option maxRecDepth 100000 in
set_option maxHeartbeats 1000000 in
theorem put_badvalue (w : World) (own : Nat → Prop) (v : Value) (n : ND) (key value : ByteArray) (hv : NodeAt w own v n) (sm : n.Small) (ln : n.Lens) (hkz : key.size ≤ 9223372036854775807) (hxz : value.size ≤ 9223372036854775807) (hf : n.leaf = true) (hck : n.check = 0) (hk : keyOk key = true) (hx : valOk value = false) :
    Calls Tryz.prog 26 #[v, .string key, .string value] w fun e w' => (∃ u, e = .returned (.tuple #[u, .int .i64 91]) ∧ OwnNode w' w.heap.size u .empty) ∧ Bl w w' := by
  have hv' := hv
  obtain ⟨ka, kc, va, vc, ia, ic, rfl, h⟩ := hv
  unfold nodeV
  unfold nodeV at hv'
  rw [hf] at hv' ⊢
  have kB : Bl w ((w.alloc (.cells #[.bool true, .slice ka n.keys.length kc, .slice va n.values.length vc, .slice ia n.kids.length ic] 61)).alloc (.cells #[.bool false, .slice none 0 0, .slice none 0 0, .slice none 0 0] 61)) := ((Bl.refl w).alloc _).alloc _
  have b3 : ((w.alloc (.cells #[.bool true, .slice ka n.keys.length kc, .slice va n.values.length vc, .slice ia n.kids.length ic] 61)).alloc (.cells #[.bool false, .slice none 0 0, .slice none 0 0, .slice none 0 0] 61)).heap[w.heap.size]? = some (.cells #[.bool true, .slice ka n.keys.length kc, .slice va n.values.length vc, .slice ia n.kids.length ic] 61 (0, 0)) := block_old _ (block_new _ _)
  have b6 : ((w.alloc (.cells #[.bool true, .slice ka n.keys.length kc, .slice va n.values.length vc, .slice ia n.kids.length ic] 61)).alloc (.cells #[.bool false, .slice none 0 0, .slice none 0 0, .slice none 0 0] 61)).heap[w.heap.size + 1]? = some (.cells #[.bool false, .slice none 0 0, .slice none 0 0, .slice none 0 0] 61 (0, 0)) := block_new' _ (by simp)
  have hA := hv'.bl kB
  clear h hf
  obtain ⟨x0, x1, x2, x3, -⟩ := cells4 b3
  obtain ⟨y0, y1, y2, y3, f0, f1, f2, f3⟩ := cells4 b6
  go_enter Tryz.func26, Tryz.ntmps26
  go_wp2_with fail
  generalize hW1 : (w.alloc (.cells #[.bool true, .slice ka n.keys.length kc, .slice va n.values.length vc, .slice ia n.kids.length ic] 61)).alloc (.cells #[.bool false, .slice none 0 0, .slice none 0 0, .slice none 0 0] 61) = W1 at *
  clear hW1
  have HCK := Lib.hid hck
  clear hck
  refine (check_any _ _ _ n hA sm ln).mono ?_
  rw [HCK.out]
  rintro e w2 ⟨rfl, k2⟩
  have b62 := below_keeps k2 b6 (lt_of_block b6)
  clear x0 x1 x2 x3 y0 y1 y2 y3 f0 f1 f2 f3 b6 b3
  obtain ⟨y0, y1, y2, y3, f0, f1, f2, f3⟩ := cells4 b62
  go_wp2_with fail
  refine (keyRight_any _ key hkz).mono ?_
  rintro e w3 ⟨rfl, hw3⟩
  subst hw3
  rw [hk]
  go_wp2_with fail
  refine (valueRight_any _ value hxz).mono ?_
  rintro e w3 ⟨rfl, hw3⟩
  subst hw3
  rw [hx]
  go_wp2_with fail
  have hc4 := chg4 (Bl.refl w2) (w.heap.size + 1) (.bool false) (.slice none 0 0) (.slice none 0 0) (.slice none 0 0)
  refine bodyPost_ret (v := .tuple #[.agg #[.bool false, .slice none 0 0, .slice none 0 0, .slice none 0 0], .int .i64 91]) (by simp [results, Tryz.results25, go_sem, *]) rfl ?_
  exact ⟨⟨_, rfl, OwnNode.empty _ _⟩, (kB.trans k2).chg hc4 (fun i hi e => by omega)⟩
end Go.Proofs.YthmimbmlcihkaaaGreat
