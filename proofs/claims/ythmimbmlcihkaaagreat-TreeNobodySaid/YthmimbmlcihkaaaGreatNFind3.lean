/-
  Find of an inner node; the document's Find.
-/
import Derived.Test.YthmimbmlcihkaaaGreatNFind2
namespace Go.Proofs.YthmimbmlcihkaaaGreat
open Go.RowKit
set_option linter.unusedSimpArgs false
set_option linter.unusedVariables false
set_option maxRecDepth 100000
theorem bl_tri : ∀ a b : List UInt8, Op.bytesLess b a = (!Op.bytesLess a b && !(a == b))
  | [], [] => by simp [Op.bytesLess]
  | [], _ :: _ => by simp [Op.bytesLess]
  | _ :: _, [] => by simp [Op.bytesLess]
  | x :: a, y :: b => by
    have ih := bl_tri a b
    simp only [Op.bytesLess]
    by_cases h1 : x < y
    · have h2 : ¬ y < x := fun h => by
        have := UInt8.lt_iff_toNat_lt.1 h1; have := UInt8.lt_iff_toNat_lt.1 h; omega
      have h3 : ¬ y = x := fun h => by subst h; have := UInt8.lt_iff_toNat_lt.1 h1; omega
      simp [h1, h2, h3]
    · by_cases h2 : y < x
      · have h3 : ¬ x = y := fun h => by subst h; have := UInt8.lt_iff_toNat_lt.1 h2; omega
        simp [h1, h2, h3]
      · have h3 : x = y := UInt8.toNat_inj.1 (by
          have a1 : ¬ x.toNat < y.toNat := fun h => h1 (UInt8.lt_iff_toNat_lt.2 h)
          have a2 : ¬ y.toNat < x.toNat := fun h => h2 (UInt8.lt_iff_toNat_lt.2 h)
          omega)
        subst h3
        simp [h1, ih]
theorem mono_gtr {l : List ByteArray} (h : ups l = true) (key : ByteArray) : ∀ i j, i ≤ j → j < l.length → lessB key (atL l i) = true → lessB key (atL l j) = true := by
  intro i j hij hj hi
  rw [atL_get hj]
  rw [atL_get (show i < l.length by omega)] at hi
  rcases Nat.lt_or_ge i j with e | e
  · exact lessB_trans hi (ups_lt h e hj)
  · obtain rfl : i = j := by omega
    exact hi
set_option maxHeartbeats 1000000 in
theorem closure62_any (w : World) (own : Nat → Prop) (lf : Value) (v1 v2 : Value) (v : Value) (l : List ByteArray) (key : ByteArray) (B1 B2 : Nat) (k : Nat) (hl : TxtAt w own v l) (h1 : w.heap[B1]? = some (.cells #[lf, v, v1, v2] 61 (0, 0))) (h2 : w.cell? ⟨B2, 0, none⟩ = some (.string key)) (hk : k < l.length) :
    Calls Tryz.prog 55 #[.int .i64 k, .pointer (some ⟨B1, 0, none⟩), .pointer (some ⟨B2, 0, none⟩)] w fun e w' => e = .returned (.bool (lessB key (atL l k))) ∧ Bl w w' := by
  obtain ⟨a, cap, rfl, hmax⟩ := RdAt.shape hl
  unfold maxLen at hmax
  obtain ⟨g, off, rfl, _, hg, hc⟩ := RdAt.get hl (by omega)
  have c1 := hc k _ (tcells_get hk)
  obtain ⟨x0, x1, x2, x3, -⟩ := cells4 h1
  clear hc
  have i0 : (0 : Int) ≤ (k : Int) := by omega
  have i1 : (k : Int) < (l.length : Int) := by omega
  have HE : Hid (lessB key (atL l k) = (!Op.bytesLess l[k].toList key.toList && !(l[k].toList == key.toList))) := by show _ = _; rw [atL_get hk, ← bl_tri]; rfl
  go_enter Tryz.func55, Tryz.ntmps55
  go_wp2_with fail
  go_region
  all_goals go_wp2_with fail
  go_ret
  exact ⟨by rw [HE.out]; rfl, (Bl.refl w).drew⟩
abbrev ND.above (n : ND) (key : ByteArray) (r : Nat) : Prop := First (fun k => lessB key (atL n.keys k)) n.keys.length r
set_option maxRecDepth 100000 in
set_option maxHeartbeats 1000000 in
theorem findinner_any (w : World) (own : Nat → Prop) (v : Value) (n : ND) (key : ByteArray) (hv : NodeAt w own v n) (sm : n.Small) (hu : ups n.keys = true) (hf : n.leaf = false) :
    Calls Tryz.prog 28 #[v, .string key] w fun e w' => (∃ r : Nat, e = .returned (.tuple #[.int .i64 r, .bool false]) ∧ n.above key r) ∧ Bl w w' := by
  obtain ⟨ka, kc, va, vc, ia, ic, rfl, h⟩ := hv
  unfold nodeV
  rw [hf]
  have hs1 := sm.keys
  have kB : Bl w ((w.alloc (.cells #[.bool false, .slice ka n.keys.length kc, .slice va n.values.length vc, .slice ia n.kids.length ic] 61)).alloc (.cells #[.string key] 9)) := ((Bl.refl w).alloc _).alloc _
  have b1 : ((w.alloc (.cells #[.bool false, .slice ka n.keys.length kc, .slice va n.values.length vc, .slice ia n.kids.length ic] 61)).alloc (.cells #[.string key] 9)).heap[w.heap.size]? = some (.cells #[.bool false, .slice ka n.keys.length kc, .slice va n.values.length vc, .slice ia n.kids.length ic] 61 (0, 0)) := block_old _ (block_new _ _)
  have b2 : ((w.alloc (.cells #[.bool false, .slice ka n.keys.length kc, .slice va n.values.length vc, .slice ia n.kids.length ic] 61)).alloc (.cells #[.string key] 9)).heap[w.heap.size + 1]? = some (.cells #[.string key] 9 (0, 0)) := block_new' _ (by simp)
  have hA := h.below kB
  have HU := Lib.hid hu
  clear hu hf
  go_enter Tryz.func28, Tryz.ntmps28
  go_wp2_with fail
  generalize (w.alloc (.cells #[.bool false, .slice ka n.keys.length kc, .slice va n.values.length vc, .slice ia n.kids.length ic] 61)).alloc (.cells #[.string key] 9) = W2 at *
  refine (search62_any W2 _ _ n.keys.length hs1 (fun k => lessB key (atL n.keys k)) (mono_gtr HU.out key) (fun w' k kk hk => ?_)).mono ?_
  · exact closure62_any w' own _ _ _ _ n.keys key _ _ k (RdAt.below hA.keys kk) (below_keeps kk b1 (lt_of_block b1)) ((cell_of_block (below_keeps kk b2 (lt_of_block b2)) 0).trans rfl) hk
  · rintro e w3 ⟨⟨r, rfl, hr⟩, k3⟩
    go_wp2_with fail
    go_ret2
    exact ⟨⟨r, rfl, hr⟩, kB.trans k3⟩
end Go.Proofs.YthmimbmlcihkaaaGreat
