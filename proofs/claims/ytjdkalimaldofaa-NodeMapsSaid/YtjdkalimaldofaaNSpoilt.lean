/-
  spoilt: what a node holds is written over.
-/
import Derived.Test.YtjdkalimaldofaaNPut
namespace Go.Proofs.Ytjdkalimaldofaa
open Go.RowKit
set_option linter.unusedSimpArgs false
set_option linter.unusedVariables false
theorem sl_put {w : World} {own : Nat → Prop} {e : TypeId} {a : Option Addr} {n cap i : Nat} {xs : List Value} (h : SlAt w own e 1 (.slice a n cap) n xs) (hi : i < n) :
    ∃ g off x, a = some ⟨g, off, none⟩ ∧ own g ∧ w.cell? ⟨g, off + i, none⟩ = some x ∧ w.frozen? ⟨g, off + i, none⟩ = false ∧ ∀ u, SlAt (w.setCell ⟨g, off + i, none⟩ u) own e 1 (.slice a n cap) n (xs.set i u) := by
  have h0 := h
  obtain ⟨hl, h⟩ := h
  rcases h with ⟨a', he, rfl⟩ | ⟨g, off, cap', cur, he, hK, hh, hnc, hcm, hsz, htk⟩
  · omega
  · injection he with e1 e2 e3
    subst e1 e3
    refine ⟨g, off, _, rfl, hK, (cell_of_block hh _).trans (Array.getElem?_eq_getElem (by omega)), free_of_block hh _, fun u => ?_⟩
    have hb := block_set hh (off + i) u
    refine sl_of_cells hb hK (by rw [List.length_set]; omega) hnc hcm (by simp; omega) (fun j hj => ?_)
    rw [List.length_set] at hj
    rw [cell_of_block hb]
    by_cases e : j = i
    · subst e
      rw [Array.getElem?_setIfInBounds_self_of_lt (by omega)]
      simp
    · rw [Array.getElem?_setIfInBounds_ne (by omega)]
      rw [List.getElem_set_ne (by omega)]
      have : (((cur.toList.drop off).take (n * 1)))[j]? = xs[j]? := by rw [htk]
      rw [List.getElem?_take, if_pos (by omega), List.getElem?_drop, List.getElem?_eq_getElem hj] at this
      simpa using this
set_option maxRecDepth 100000 in
set_option maxHeartbeats 4000000 in
theorem spoilt_any (w : World) (base : Nat) (u : Value) (n : ND) (h : OwnNode w base u n) :
    Calls Try.prog 27 #[u] w fun e w' => e = .returned (.tuple #[]) ∧ Chg (fun j => base ≤ j) w w' := by
  obtain ⟨ka, kc, va, vc, ia, ic, K, V, I, rfl, ⟨hk, hv, hi⟩, ap, tp⟩ := h
  unfold nodeV
  have hkm := (RdAt.shape hk.rd)
  have hvm := (RdAt.shape hv.rd)
  have him := (RdAt.shape hi.rd)
  obtain ⟨_, _, _, hkm⟩ := hkm
  obtain ⟨_, _, _, hvm⟩ := hvm
  obtain ⟨_, _, _, him⟩ := him
  unfold maxLen at hkm hvm him
  have kB : Bl w (w.alloc (.cells #[.bool n.leaf, .slice ka n.keys.length kc, .slice va n.values.length vc, .slice ia n.kids.length ic] 25)) := (Bl.refl w).alloc _
  have b1 : (w.alloc (.cells #[.bool n.leaf, .slice ka n.keys.length kc, .slice va n.values.length vc, .slice ia n.kids.length ic] 25)).heap[w.heap.size]? = some (.cells #[.bool n.leaf, .slice ka n.keys.length kc, .slice va n.values.length vc, .slice ia n.kids.length ic] 25 (0, 0)) := block_new _ _
  have hk1 := hk.below kB
  have hv1 := hv.below kB
  have hi1 := hi.below kB
  have tpK : ∀ j, K j → ¬ j = w.heap.size := fun j hj e => by have := tp j (Or.inl hj); omega
  have tpV : ∀ j, V j → ¬ j = w.heap.size := fun j hj e => by have := tp j (Or.inr (Or.inl hj)); omega
  have tpI : ∀ j, I j → ¬ j = w.heap.size := fun j hj e => by have := tp j (Or.inr (Or.inr hj)); omega
  have AP := Lib.hid ap
  have TK := Lib.hid tpK
  have TV := Lib.hid tpV
  have TI := Lib.hid tpI
  have cB : Chg (fun j => base ≤ j) w (w.alloc (.cells #[.bool n.leaf, .slice ka n.keys.length kc, .slice va n.values.length vc, .slice ia n.kids.length ic] 25)) := Chg.of_below kB
  clear hk hv hi kB ap tp tpK tpV tpI
  generalize hD : w.heap.size = D at *
  go_enter Try.func27, Try.ntmps27
  go_wp2_with fail
  generalize w.alloc (.cells #[.bool n.leaf, .slice ka n.keys.length kc, .slice va n.values.length vc, .slice ia n.kids.length ic] 25) = W1 at *
  clear hD
  go_loopw [2] (fun i wr => ∃ k : Nat, k ≤ n.keys.length ∧ i = .int .i64 k ∧ (∃ xs, SlAt wr K 9 1 (.slice ka n.keys.length kc) n.keys.length xs) ∧ (∃ xs, SlAt wr V 9 1 (.slice va n.values.length vc) n.values.length xs) ∧ (∃ xs, SlAt wr I 3 1 (.slice ia n.kids.length ic) n.kids.length xs) ∧ wr.heap[D]? = some (.cells #[.bool n.leaf, .slice ka n.keys.length kc, .slice va n.values.length vc, .slice ia n.kids.length ic] 25 (0, 0)) ∧ Chg (fun j => base ≤ j) w wr) (fun i _ => n.keys.length - (intOf i).toNat)
  case atStart => exact ⟨0, Nat.zero_le _, rfl, ⟨_, hk1⟩, ⟨_, hv1⟩, ⟨_, hi1⟩, b1, cB⟩
  case round =>
    obtain ⟨k, hk, rfl, ⟨xK, qK⟩, ⟨xV, qV⟩, ⟨xI, qI⟩, bD, cr⟩ := hrel
    try clear hk1 hv1 hi1 b1 cB
    have i0 : (0 : Int) ≤ (k : Int) := by omega
    obtain ⟨x0, x1, x2, x3, -⟩ := cells4 bD
    by_cases hlt : k < n.keys.length
    · have i1 : (k : Int) < (n.keys.length : Int) := by omega
      obtain ⟨g, off, y, rfl, hog, hcell, hfree, hset⟩ := sl_put qK hlt
      have nD : ¬ g = D := fun e => TK.out g hog e
      have hcg : ∀ u, Chg (fun j => j = g) wr (wr.setCell ⟨g, off + k, none⟩ u) := fun u => (Chg.refl _ _).setCell _ _ (fun _ => rfl)
      have HSET := Lib.hid hset
      have HCG := Lib.hid hcg
      clear hset hcg
      go_wp2_with fail
      go_roundw
      case rel => exact ⟨k + 1, by omega, by go_num, ⟨_, HSET.out _⟩, ⟨_, qV.chg (HCG.out _) (fun j hj e => AP.out.kv j (e ▸ hog) hj)⟩, ⟨_, qI.chg (HCG.out _) (fun j hj e => AP.out.ki j (e ▸ hog) hj)⟩, (HCG.out _).keeps bD (fun e => nD e.symm), cr.trans ((HCG.out _).mono (fun j _ e => by have := AP.out.k g hog; omega))⟩
      case measure => simp [intOf]; omega
    · obtain rfl : k = n.keys.length := by omega
      clear i0
      go_wp2_with fail
      go_loopw [3] (fun i wr => ∃ k : Nat, k ≤ n.values.length ∧ i = .int .i64 k ∧ (∃ xs, SlAt wr K 9 1 (.slice ka n.keys.length kc) n.keys.length xs) ∧ (∃ xs, SlAt wr V 9 1 (.slice va n.values.length vc) n.values.length xs) ∧ (∃ xs, SlAt wr I 3 1 (.slice ia n.kids.length ic) n.kids.length xs) ∧ wr.heap[D]? = some (.cells #[.bool n.leaf, .slice ka n.keys.length kc, .slice va n.values.length vc, .slice ia n.kids.length ic] 25 (0, 0)) ∧ Chg (fun j => base ≤ j) w wr) (fun i _ => n.values.length - (intOf i).toNat)
      case atStart => exact ⟨0, Nat.zero_le _, rfl, ⟨_, qK⟩, ⟨_, qV⟩, ⟨_, qI⟩, bD, cr⟩
      case round =>
        obtain ⟨k, hk, rfl, ⟨xK, qK⟩, ⟨xV, qV⟩, ⟨xI, qI⟩, bD, cr⟩ := hrel
        have i0 : (0 : Int) ≤ (k : Int) := by omega
        obtain ⟨x0, x1, x2, x3, -⟩ := cells4 bD
        by_cases hlt : k < n.values.length
        · have i1 : (k : Int) < (n.values.length : Int) := by omega
          obtain ⟨g, off, y, rfl, hog, hcell, hfree, hset⟩ := sl_put qV hlt
          have nD : ¬ g = D := fun e => TV.out g hog e
          have hcg : ∀ u, Chg (fun j => j = g) wr (wr.setCell ⟨g, off + k, none⟩ u) := fun u => (Chg.refl _ _).setCell _ _ (fun _ => rfl)
          have HSET := Lib.hid hset
          have HCG := Lib.hid hcg
          clear hset hcg
          go_wp2_with fail
          go_roundw
          case rel => exact ⟨k + 1, by omega, by go_num, ⟨_, qK.chg (HCG.out _) (fun j hj e => AP.out.kv j hj (e ▸ hog))⟩, ⟨_, HSET.out _⟩, ⟨_, qI.chg (HCG.out _) (fun j hj e => AP.out.vi j (e ▸ hog) hj)⟩, (HCG.out _).keeps bD (fun e => nD e.symm), cr.trans ((HCG.out _).mono (fun j _ e => by have := AP.out.v g hog; omega))⟩
          case measure => simp [intOf]; omega
        · obtain rfl : k = n.values.length := by omega
          clear i0
          go_wp2_with fail
          go_loopw [4] (fun i wr => ∃ k : Nat, k ≤ n.kids.length ∧ i = .int .i64 k ∧ (∃ xs, SlAt wr K 9 1 (.slice ka n.keys.length kc) n.keys.length xs) ∧ (∃ xs, SlAt wr V 9 1 (.slice va n.values.length vc) n.values.length xs) ∧ (∃ xs, SlAt wr I 3 1 (.slice ia n.kids.length ic) n.kids.length xs) ∧ wr.heap[D]? = some (.cells #[.bool n.leaf, .slice ka n.keys.length kc, .slice va n.values.length vc, .slice ia n.kids.length ic] 25 (0, 0)) ∧ Chg (fun j => base ≤ j) w wr) (fun i _ => n.kids.length - (intOf i).toNat)
          case atStart => exact ⟨0, Nat.zero_le _, rfl, ⟨_, qK⟩, ⟨_, qV⟩, ⟨_, qI⟩, bD, cr⟩
          case round =>
            obtain ⟨k, hk, rfl, ⟨xK, qK⟩, ⟨xV, qV⟩, ⟨xI, qI⟩, bD, cr⟩ := hrel
            have i0 : (0 : Int) ≤ (k : Int) := by omega
            obtain ⟨x0, x1, x2, x3, -⟩ := cells4 bD
            by_cases hlt : k < n.kids.length
            · have i1 : (k : Int) < (n.kids.length : Int) := by omega
              obtain ⟨g, off, y, rfl, hog, hcell, hfree, hset⟩ := sl_put qI hlt
              have nD : ¬ g = D := fun e => TI.out g hog e
              have hcg : ∀ u, Chg (fun j => j = g) wr (wr.setCell ⟨g, off + k, none⟩ u) := fun u => (Chg.refl _ _).setCell _ _ (fun _ => rfl)
              have HSET := Lib.hid hset
              have HCG := Lib.hid hcg
              clear hset hcg
              go_wp2_with fail
              go_roundw
              case rel => exact ⟨k + 1, by omega, by go_num, ⟨_, qK.chg (HCG.out _) (fun j hj e => AP.out.ki j hj (e ▸ hog))⟩, ⟨_, qV.chg (HCG.out _) (fun j hj e => AP.out.vi j hj (e ▸ hog))⟩, ⟨_, HSET.out _⟩, (HCG.out _).keeps bD (fun e => nD e.symm), cr.trans ((HCG.out _).mono (fun j _ e => by have := AP.out.i g hog; omega))⟩
              case measure => simp [intOf]; omega
            · obtain rfl : k = n.kids.length := by omega
              clear i0
              go_wp2_with fail
              refine ⟨rfl, .tuple #[], by simp [results, Try.results27, go_sem], rfl, cr⟩
end Go.Proofs.Ytjdkalimaldofaa
