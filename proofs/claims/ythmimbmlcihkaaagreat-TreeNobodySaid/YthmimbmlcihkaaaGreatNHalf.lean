/-
  half: the program's.
-/
import Derived.Test.YthmimbmlcihkaaaGreatNChk
namespace Go.Proofs.YthmimbmlcihkaaaGreat
open Go.RowKit
set_option linter.unusedSimpArgs false
set_option linter.unusedVariables false
set_option maxRecDepth 100000

/-- the first of 1 .. L behind which half of the bytes lie, or L -/
structure ND.Half (n : ND) (L h : Nat) : Prop where
  pos : 1 ≤ h
  le : h ≤ L
  less : ∀ j, 1 ≤ j → j < h → 2 * n.psumTo j < n.psumTo n.keys.length
  more : h < L → n.psumTo n.keys.length ≤ 2 * n.psumTo h
theorem ND.Half.uniq {n : ND} {L h k : Nat} (a : n.Half L h) (b : n.Half L k) : h = k := by
  rcases Nat.lt_trichotomy h k with e | e | e
  · have := b.less h a.pos e
    have := a.more (Nat.lt_of_lt_of_le e b.le)
    omega
  · exact e
  · have := a.less k b.pos e
    have := b.more (Nat.lt_of_lt_of_le e a.le)
    omega
set_option maxHeartbeats 2000000 in
theorem half_any (w : World) (own : Nat → Prop) (v : Value) (n : ND) (L : Nat) (hv : NodeAt w own v n) (hs : n.Small) (hl : n.lens = true) (hL : 1 ≤ L) (hL2 : L ≤ n.keys.length) :
    Calls Tryz.prog 118 #[v, .int .i64 L] w fun e w' => (∃ h : Nat, e = .returned (.int .i64 h) ∧ n.Half L h) ∧ Bl w w' := by
  have hv' := hv
  obtain ⟨ka, kc, va, vc, ia, ic, rfl, h⟩ := hv
  have kB : Bl w (w.alloc (.cells (nbox n ka kc va vc ia ic) 61)) := (Bl.refl w).alloc _
  have b1 : (w.alloc (.cells (nbox n ka kc va vc ia ic) 61)).heap[w.heap.size]? = some (.cells (nbox n ka kc va vc ia ic) 61 (0, 0)) := block_new _ _
  have hsz : w.heap.size < (w.alloc (.cells (nbox n ka kc va vc ia ic) 61)).heap.size := by simp
  obtain ⟨_, _, _, hmax⟩ := RdAt.shape h.keys
  unfold maxLen at hmax
  have hk30 := hs.keys
  have HL := Lib.hid hl
  clear hl
  have hS0 := n.psumTo_pos n.keys.length
  have hS1 := ND.psumTo_le HL.out n.keys.length
  unfold nodeV
  unfold nodeV at hv'
  unfold nbox at kB b1 hsz
  go_enter Tryz.func118, Tryz.ntmps118
  go_wp2_with fail
  generalize w.alloc (.cells #[.bool n.leaf, .slice ka n.keys.length kc, .slice va n.values.length vc, .slice ia n.kids.length ic] 61) = W2 at *
  go_loopw [5, 6, 12] (fun s _ i wr => ∃ k : Nat, k ≤ n.keys.length ∧ s = .int .i64 (n.psumTo k) ∧ i = .int .i64 k ∧ Bl W2 wr) (fun _ _ i _ => n.keys.length - (intOf i).toNat)
  case atStart => exact ⟨0, by omega, by simp [ND.psumTo], rfl, Bl.refl _⟩
  case round =>
    obtain ⟨k, hk, rfl, rfl, hB⟩ := hrel
    have i0 : (0 : Int) ≤ (k : Int) := by omega
    have br := below_keeps hB b1 hsz
    have hr := hv'.bl (kB.trans hB)
    have x0 : wr.cell? ⟨w.heap.size, 0, none⟩ = some (.bool n.leaf) := (cell_of_block br 0).trans rfl
    have x1 : wr.cell? ⟨w.heap.size, 1, none⟩ = some (.slice ka n.keys.length kc) := (cell_of_block br 1).trans rfl
    have x2 : wr.cell? ⟨w.heap.size, 2, none⟩ = some (.slice va n.values.length vc) := (cell_of_block br 2).trans rfl
    have x3 : wr.cell? ⟨w.heap.size, 3, none⟩ = some (.slice ia n.kids.length ic) := (cell_of_block br 3).trans rfl
    by_cases hlt : k < n.keys.length
    · have S0 := n.psumTo_pos k
      have S1 := ND.psumTo_le HL.out k
      have i1 : (k : Int) < (n.keys.length : Int) := by omega
      have E0 := n.pentry_pos k
      have E1 := ND.pentry_le HL.out k
      have hnx : Hid (n.psumTo (k + 1) = n.psumTo k + n.pentry k) := rfl
      generalize n.psumTo k = S at *
      go_wp2_with (go_at_call 89; refine (pentry_any wr own _ n hr (ND.Lens.of HL.out) hs k hlt).mono ?_; rintro e w3 ⟨rfl, k3⟩)
      go_roundw
      case rel => exact ⟨k + 1, by omega, by rw [hnx.out], by go_num, hB.trans k3⟩
      case measure => simp [intOf]; omega
    · obtain rfl : k = n.keys.length := by omega
      clear x0 x1 x2 x3
      go_wp2_with fail
      go_loopw [7, 8] (fun s i wq => ∃ k : Nat, k < L ∧ s = .int .i64 (n.psumTo k) ∧ i = .int .i64 ((k : Int) + 1) ∧ Bl W2 wq ∧ Hid (∀ j, 1 ≤ j → j < k + 1 → 2 * n.psumTo j < n.psumTo n.keys.length)) (fun _ i _ => L - (intOf i).toNat)
      case atStart => exact ⟨0, by omega, by simp [ND.psumTo], rfl, hB, fun j h1 h2 => by omega⟩
      case round =>
        obtain ⟨k, hk, rfl, rfl, hB, hpre⟩ := hrel
        have i0 : (0 : Int) ≤ (k : Int) := by omega
        have br := below_keeps hB b1 hsz
        have hr := hv'.bl (kB.trans hB)
        have x0 : wr.cell? ⟨w.heap.size, 0, none⟩ = some (.bool n.leaf) := (cell_of_block br 0).trans rfl
        have x1 : wr.cell? ⟨w.heap.size, 1, none⟩ = some (.slice ka n.keys.length kc) := (cell_of_block br 1).trans rfl
        have x2 : wr.cell? ⟨w.heap.size, 2, none⟩ = some (.slice va n.values.length vc) := (cell_of_block br 2).trans rfl
        have x3 : wr.cell? ⟨w.heap.size, 3, none⟩ = some (.slice ia n.kids.length ic) := (cell_of_block br 3).trans rfl
        by_cases hlt : k + 1 < L
        · have S0 := n.psumTo_pos k
          have S1 := ND.psumTo_le HL.out k
          have i1 : (k : Int) + 1 < (L : Int) := by omega
          have E0 := n.pentry_pos k
          have E1 := ND.pentry_le HL.out k
          have hnx : Hid (n.psumTo (k + 1) = n.psumTo k + n.pentry k) := rfl
          by_cases hm : n.psumTo n.keys.length ≤ 2 * (n.psumTo k + n.pentry k)
          · have HH : Hid (n.Half L (k + 1)) := ⟨by omega, by omega, fun j h1 h2 => hpre.out j h1 (by omega), fun _ => by rw [hnx.out]; exact hm⟩
            clear hpre
            generalize n.psumTo k = S at *
            generalize n.psumTo n.keys.length = T at *
            go_wp2_with (go_at_call 89; refine (pentry_any wr own _ n hr (ND.Lens.of HL.out) hs k (by omega)).mono ?_; rintro e w3 ⟨rfl, k3⟩)
            go_ret
            exact ⟨⟨k + 1, by simp, HH.out⟩, kB.trans (hB.trans k3)⟩
          · have hpre' : Hid (∀ j, 1 ≤ j → j < k + 1 + 1 → 2 * n.psumTo j < n.psumTo n.keys.length) := by
              intro j h1 h2
              by_cases e : j = k + 1
              · subst e; rw [hnx.out]; omega
              · exact hpre.out j h1 (by omega)
            clear hpre
            have HP := hpre'
            clear hpre'
            have hm' : 2 * (n.psumTo k + n.pentry k) < n.psumTo n.keys.length := by omega
            go_wp2_with (go_at_call 89; refine (pentry_any wr own _ n hr (ND.Lens.of HL.out) hs k (by omega)).mono ?_; rintro e w3 ⟨rfl, k3⟩)
            go_roundw
            case rel => exact ⟨k + 1, by omega, by rw [hnx.out], by go_num, hB.trans k3, HP⟩
            case measure => simp [intOf]; omega
        · obtain rfl : L = k + 1 := by omega
          clear x0 x1 x2 x3
          have HH : Hid (n.Half (k + 1) (k + 1)) := ⟨by omega, by omega, fun j h1 h2 => hpre.out j h1 (by omega), fun h => by omega⟩
          go_wp2_with fail
          go_ret
          exact ⟨⟨k + 1, by simp, HH.out⟩, kB.trans hB⟩
end Go.Proofs.YthmimbmlcihkaaaGreat
