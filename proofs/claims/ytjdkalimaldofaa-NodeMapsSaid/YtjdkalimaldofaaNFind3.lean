/-
  Find of an inner node; the document's Find.
-/
import Derived.Test.YtjdkalimaldofaaNFind2
namespace Go.Proofs.Ytjdkalimaldofaa
open Go.RowKit
set_option linter.unusedSimpArgs false
set_option linter.unusedVariables false
theorem bl_tri : ∀ a b : List UInt8, Op.bytesLess b a = (!Op.bytesLess a b && !(a == b))
  | [], [] => by simp [Op.bytesLess]
  | [], _ :: _ => by simp [Op.bytesLess]
  | _ :: _, [] => by simp [Op.bytesLess]
  | x :: a, y :: b => by
    have ih := bl_tri a b
    simp only [Op.bytesLess]
    by_cases h1 : x < y
    · have h2 : ¬ y < x := fun h => by
        have := UInt8.lt_iff_toNat_lt.1 h1; have := UInt8.lt_iff_toNat_lt.1 h; omega
      have h3 : ¬ y = x := fun h => by subst h; have := UInt8.lt_iff_toNat_lt.1 h1; omega
      simp [h1, h2, h3]
    · by_cases h2 : y < x
      · have h3 : ¬ x = y := fun h => by subst h; have := UInt8.lt_iff_toNat_lt.1 h2; omega
        simp [h1, h2, h3]
      · have h3 : x = y := UInt8.toNat_inj.1 (by
          have a1 : ¬ x.toNat < y.toNat := fun h => h1 (UInt8.lt_iff_toNat_lt.2 h)
          have a2 : ¬ y.toNat < x.toNat := fun h => h2 (UInt8.lt_iff_toNat_lt.2 h)
          omega)
        subst h3
        simp [h1, ih]
theorem mono_gtr {l : List ByteArray} (h : ups l = true) (key : ByteArray) : ∀ i j, i ≤ j → j < l.length → lessB key (atL l i) = true → lessB key (atL l j) = true := by
  intro i j hij hj hi
  rw [atL_get hj]
  rw [atL_get (show i < l.length by omega)] at hi
  rcases Nat.lt_or_ge i j with e | e
  · exact lessB_trans hi (ups_lt h e hj)
  · obtain rfl : i = j := by omega
    exact hi
set_option maxHeartbeats 1000000 in
theorem closure62_any (w : World) (own : Nat → Prop) (lf : Value) (v1 v2 : Value) (v : Value) (l : List ByteArray) (key : ByteArray) (B1 B2 : Nat) (k : Nat) (hl : TxtAt w own v l) (h1 : w.heap[B1]? = some (.cells #[lf, v, v1, v2] 25 (0, 0))) (h2 : w.cell? ⟨B2, 0, none⟩ = some (.string key)) (hk : k < l.length) :
    Calls Try.prog 62 #[.int .i64 k, .pointer (some ⟨B1, 0, none⟩), .pointer (some ⟨B2, 0, none⟩)] w fun e w' => e = .returned (.bool (lessB key (atL l k))) ∧ Bl w w' := by
  obtain ⟨a, cap, rfl, hmax⟩ := RdAt.shape hl
  unfold maxLen at hmax
  obtain ⟨g, off, rfl, _, hg, hc⟩ := RdAt.get hl (by omega)
  have c1 := hc k _ (tcells_get hk)
  obtain ⟨x0, x1, x2, x3, -⟩ := cells4 h1
  clear hc
  have i0 : (0 : Int) ≤ (k : Int) := by omega
  have i1 : (k : Int) < (l.length : Int) := by omega
  have HE : Hid (lessB key (atL l k) = (!Op.bytesLess l[k].toList key.toList && !(l[k].toList == key.toList))) := by show _ = _; rw [atL_get hk, ← bl_tri]; rfl
  go_enter Try.func62, Try.ntmps62
  go_wp2_with fail
  go_region
  all_goals go_wp2_with fail
  go_ret
  exact ⟨by rw [HE.out]; rfl, (Bl.refl w).drew⟩
abbrev ND.above (n : ND) (key : ByteArray) (r : Nat) : Prop := First (fun k => lessB key (atL n.keys k)) n.keys.length r
set_option maxRecDepth 100000 in
set_option maxHeartbeats 1000000 in
theorem findinner_any (w : World) (own : Nat → Prop) (v : Value) (n : ND) (key : ByteArray) (hv : NodeAt w own v n) (sm : n.Small) (hu : ups n.keys = true) (hf : n.leaf = false) :
    Calls Try.prog 23 #[v, .string key] w fun e w' => (∃ r : Nat, e = .returned (.tuple #[.int .i64 r, .bool false]) ∧ n.above key r) ∧ Bl w w' := by
  obtain ⟨ka, kc, va, vc, ia, ic, rfl, h⟩ := hv
  unfold nodeV
  rw [hf]
  have hs1 := sm.keys
  have kB : Bl w ((w.alloc (.cells #[.bool false, .slice ka n.keys.length kc, .slice va n.values.length vc, .slice ia n.kids.length ic] 25)).alloc (.cells #[.string key] 9)) := ((Bl.refl w).alloc _).alloc _
  have b1 : ((w.alloc (.cells #[.bool false, .slice ka n.keys.length kc, .slice va n.values.length vc, .slice ia n.kids.length ic] 25)).alloc (.cells #[.string key] 9)).heap[w.heap.size]? = some (.cells #[.bool false, .slice ka n.keys.length kc, .slice va n.values.length vc, .slice ia n.kids.length ic] 25 (0, 0)) := block_old _ (block_new _ _)
  have b2 : ((w.alloc (.cells #[.bool false, .slice ka n.keys.length kc, .slice va n.values.length vc, .slice ia n.kids.length ic] 25)).alloc (.cells #[.string key] 9)).heap[w.heap.size + 1]? = some (.cells #[.string key] 9 (0, 0)) := block_new' _ (by simp)
  have hA := h.below kB
  have HU := Lib.hid hu
  clear hu hf
  go_enter Try.func23, Try.ntmps23
  go_wp2_with fail
  generalize (w.alloc (.cells #[.bool false, .slice ka n.keys.length kc, .slice va n.values.length vc, .slice ia n.kids.length ic] 25)).alloc (.cells #[.string key] 9) = W2 at *
  refine (search62_any W2 _ _ n.keys.length hs1 (fun k => lessB key (atL n.keys k)) (mono_gtr HU.out key) (fun w' k kk hk => ?_)).mono ?_
  · exact closure62_any w' own _ _ _ _ n.keys key _ _ k (RdAt.below hA.keys kk) (below_keeps kk b1 (lt_of_block b1)) ((cell_of_block (below_keeps kk b2 (lt_of_block b2)) 0).trans rfl) hk
  · rintro e w3 ⟨⟨r, rfl, hr⟩, k3⟩
    go_wp2_with fail
    go_ret2
    exact ⟨⟨r, rfl, hr⟩, kB.trans k3⟩
set_option maxRecDepth 100000 in
set_option maxHeartbeats 1000000 in
theorem rfindleaf_any (w : World) (own : Nat → Prop) (v : Value) (n : ND) (key : ByteArray) (hv : NodeAt w own v n) (sm : n.Small) (hf : n.leaf = true) :
    Calls Try.prog 24 #[v, .string key] w fun e w' => (∃ r : Nat, e = .returned (.tuple #[.int .i64 r, .bool (n.finds key r)]) ∧ First (fun k => !(lessB (atL n.keys k) key)) n.keys.length r) ∧ Bl w w' := by
  obtain ⟨ka, kc, va, vc, ia, ic, rfl, h⟩ := hv
  unfold nodeV
  rw [hf]
  have hs1 := sm.keys
  have kB : Bl w (w.alloc (.cells #[.bool true, .slice ka n.keys.length kc, .slice va n.values.length vc, .slice ia n.kids.length ic] 25)) := (Bl.refl w).alloc _
  have b1 : (w.alloc (.cells #[.bool true, .slice ka n.keys.length kc, .slice va n.values.length vc, .slice ia n.kids.length ic] 25)).heap[w.heap.size]? = some (.cells #[.bool true, .slice ka n.keys.length kc, .slice va n.values.length vc, .slice ia n.kids.length ic] 25 (0, 0)) := block_new _ _
  have hA := (h.below kB).keys
  clear h hf
  obtain ⟨x0, x1, x2, x3, -⟩ := cells4 b1
  go_enter Try.func24, Try.ntmps24
  go_wp2_with fail
  generalize w.alloc (.cells #[.bool true, .slice ka n.keys.length kc, .slice va n.values.length vc, .slice ia n.kids.length ic] 25) = W2 at *
  clear b1
  go_loopw [6] (fun i wr => ∃ k : Nat, k ≤ n.keys.length ∧ i = .int .i64 k ∧ (∀ j, j < k → lessB (atL n.keys j) key = true) ∧ wr = W2) (fun i _ => n.keys.length - (intOf i).toNat)
  case atStart => exact ⟨0, by omega, rfl, fun j hj => by omega, rfl⟩
  case round =>
    obtain ⟨k, hk, rfl, hle, rfl⟩ := hrel
    have HLE := Lib.hid hle
    clear hle
    have i0 : (0 : Int) ≤ (k : Int) := by omega
    have i9 : (k : Int) ≤ 8796093022208 := by omega
    by_cases hlt : k < n.keys.length
    · obtain ⟨g, off, rfl, _, hg, hc⟩ := RdAt.get hA (by omega)
      have c1 := hc k _ (tcells_get hlt)
      clear hc
      have i1 : (k : Int) < (n.keys.length : Int) := by omega
      have HB : Hid (lessB (atL n.keys k) key = Op.bytesLess n.keys[k].toList key.toList) := by show _ = _; rw [atL_get hlt]; rfl
      have HE : Hid (n.finds key k = (n.keys[k].toList == key.toList)) := by show _ = _; simp [ND.finds, hlt, atL_get hlt, eqB]
      cases hl : Op.bytesLess n.keys[k].toList key.toList with
      | true =>
        have HN : Hid (∀ j, j < k + 1 → lessB (atL n.keys j) key = true) := fun j hj => by
          by_cases e : j = k
          · subst e; rw [HB.out, hl]
          · exact HLE.out j (by omega)
        go_wp2_with fail
        go_roundw
        case rel => exact ⟨k + 1, by omega, by go_num, HN.out, trivial⟩
        case measure => simp [intOf]; omega
      | false =>
        have HR : Hid (First (fun k => !(lessB (atL n.keys k) key)) n.keys.length k) := ⟨by omega, fun j hj => by simp [HLE.out j hj], fun _ => by simp [HB.out, hl]⟩
        go_wp2_with fail
        go_quiet (fail)
        all_goals go_wp2_with fail
        go_ret2
        exact ⟨⟨k, by rw [HE.out]; rfl, HR.out⟩, kB.drewN _⟩
    · obtain rfl : k = n.keys.length := by omega
      have r1 : ¬ (n.keys.length : Int) < (n.keys.length : Int) := by omega
      have HE : Hid (n.finds key n.keys.length = false) := by show _ = _; simp [ND.finds]
      have HR : Hid (First (fun k => !(lessB (atL n.keys k) key)) n.keys.length n.keys.length) := ⟨by omega, fun j hj => by simp [HLE.out j hj], fun h => by omega⟩
      go_wp2_with fail
      go_quiet (fail)
      all_goals go_wp2_with fail
      go_ret2
      exact ⟨⟨n.keys.length, by rw [HE.out]; rfl, HR.out⟩, kB.drewN _⟩
set_option maxRecDepth 100000 in
set_option maxHeartbeats 1000000 in
theorem rfindinner_any (w : World) (own : Nat → Prop) (v : Value) (n : ND) (key : ByteArray) (hv : NodeAt w own v n) (sm : n.Small) (hf : n.leaf = false) :
    Calls Try.prog 24 #[v, .string key] w fun e w' => (∃ r : Nat, e = .returned (.tuple #[.int .i64 r, .bool false]) ∧ n.above key r) ∧ Bl w w' := by
  obtain ⟨ka, kc, va, vc, ia, ic, rfl, h⟩ := hv
  unfold nodeV
  rw [hf]
  have hs1 := sm.keys
  have kB : Bl w (w.alloc (.cells #[.bool false, .slice ka n.keys.length kc, .slice va n.values.length vc, .slice ia n.kids.length ic] 25)) := (Bl.refl w).alloc _
  have b1 : (w.alloc (.cells #[.bool false, .slice ka n.keys.length kc, .slice va n.values.length vc, .slice ia n.kids.length ic] 25)).heap[w.heap.size]? = some (.cells #[.bool false, .slice ka n.keys.length kc, .slice va n.values.length vc, .slice ia n.kids.length ic] 25 (0, 0)) := block_new _ _
  have hA := (h.below kB).keys
  clear h hf
  obtain ⟨x0, x1, x2, x3, -⟩ := cells4 b1
  go_enter Try.func24, Try.ntmps24
  go_wp2_with fail
  generalize w.alloc (.cells #[.bool false, .slice ka n.keys.length kc, .slice va n.values.length vc, .slice ia n.kids.length ic] 25) = W2 at *
  clear b1
  go_loopw [6] (fun i wr => ∃ k : Nat, k ≤ n.keys.length ∧ i = .int .i64 k ∧ (∀ j, j < k → lessB key (atL n.keys j) = false) ∧ wr = W2) (fun i _ => n.keys.length - (intOf i).toNat)
  case atStart => exact ⟨0, by omega, rfl, fun j hj => by omega, rfl⟩
  case round =>
    obtain ⟨k, hk, rfl, hle, rfl⟩ := hrel
    have HLE := Lib.hid hle
    clear hle
    have i0 : (0 : Int) ≤ (k : Int) := by omega
    have i9 : (k : Int) ≤ 8796093022208 := by omega
    by_cases hlt : k < n.keys.length
    · obtain ⟨g, off, rfl, _, hg, hc⟩ := RdAt.get hA (by omega)
      have c1 := hc k _ (tcells_get hlt)
      clear hc
      have i1 : (k : Int) < (n.keys.length : Int) := by omega
      have HB : Hid (lessB key (atL n.keys k) = Op.bytesLess key.toList n.keys[k].toList) := by show _ = _; rw [atL_get hlt]; rfl
      have hq := bl_tri n.keys[k].toList key.toList
      cases hl : Op.bytesLess key.toList n.keys[k].toList with
      | false =>
        have HN : Hid (∀ j, j < k + 1 → lessB key (atL n.keys j) = false) := fun j hj => by
          by_cases e : j = k
          · subst e; rw [HB.out, hl]
          · exact HLE.out j (by omega)
        have hleq : (Op.bytesLess n.keys[k].toList key.toList || n.keys[k].toList == key.toList) = true := by
          rw [hl] at hq
          revert hq
          cases Op.bytesLess n.keys[k].toList key.toList <;> cases n.keys[k].toList == key.toList <;> simp
        clear hq hl
        go_wp2_with fail
        go_roundw
        case rel => exact ⟨k + 1, by omega, by go_num, HN.out, trivial⟩
        case measure => simp [intOf]; omega
      | true =>
        have HR : Hid (n.above key k) := ⟨by omega, fun j hj => HLE.out j hj, fun _ => by simp [HB.out, hl]⟩
        have hleq : (Op.bytesLess n.keys[k].toList key.toList || n.keys[k].toList == key.toList) = false := by
          rw [hl] at hq
          revert hq
          cases Op.bytesLess n.keys[k].toList key.toList <;> cases n.keys[k].toList == key.toList <;> simp
        clear hq hl
        go_wp2_with fail
        go_ret2
        exact ⟨⟨k, rfl, HR.out⟩, kB⟩
    · obtain rfl : k = n.keys.length := by omega
      have r1 : ¬ (n.keys.length : Int) < (n.keys.length : Int) := by omega
      have HR : Hid (n.above key n.keys.length) := ⟨by omega, fun j hj => HLE.out j hj, fun h => by omega⟩
      go_wp2_with fail
      go_ret2
      exact ⟨⟨n.keys.length, rfl, HR.out⟩, kB⟩
end Go.Proofs.Ytjdkalimaldofaa
