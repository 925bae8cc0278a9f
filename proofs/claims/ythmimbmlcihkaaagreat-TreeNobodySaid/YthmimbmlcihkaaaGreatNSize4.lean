/-
  The program's Size.
-/
import Derived.Test.YthmimbmlcihkaaaGreatNSize3
namespace Go.Proofs.YthmimbmlcihkaaaGreat
open Go.RowKit
set_option linter.unusedSimpArgs false
set_option linter.unusedVariables false
set_option maxRecDepth 100000

/-- the first k entries' bytes -/
def ND.psumTo (n : ND) : Nat → Int
  | 0 => 0
  | k + 1 => n.psumTo k + n.pentry k
def ND.psize (n : ND) : Int := (if n.leaf = false ∧ 0 < n.kids.length then 20 else 16) + n.psumTo n.keys.length
theorem ND.pentry_pos (n : ND) (i : Nat) : 0 ≤ n.pentry i := by
  unfold ND.pentry
  have := sz_pos n.keys i
  have := sz_pos n.values i
  split
  · omega
  · split <;> omega
theorem ND.pentry_le {n : ND} (h : n.lens = true) (i : Nat) : n.pentry i ≤ 130 := by
  have := ND.rentry_le h i
  unfold ND.rentry at this
  unfold ND.pentry
  split
  · rename_i e; rw [if_pos e] at this; omega
  · rename_i e; rw [if_neg e] at this; split <;> omega
theorem ND.psumTo_pos (n : ND) (k : Nat) : 0 ≤ n.psumTo k := by
  induction k with
  | zero => exact Int.le_refl _
  | succ k ih => have := n.pentry_pos k; show 0 ≤ n.psumTo k + n.pentry k; omega
theorem ND.psumTo_le {n : ND} (h : n.lens = true) (k : Nat) : n.psumTo k ≤ 130 * k := by
  induction k with
  | zero => exact Int.le_refl _
  | succ k ih => have := ND.pentry_le h k; show n.psumTo k + n.pentry k ≤ _; omega
set_option maxHeartbeats 1000000 in
theorem psize_any (w : World) (own : Nat → Prop) (v : Value) (n : ND) (hv : NodeAt w own v n) (hs : n.Small) (hl : n.lens = true) :
    Calls Tryz.prog 66 #[v] w fun e w' => e = .returned (.int .i64 n.psize) ∧ Bl w w' := by
  have hv' := hv
  obtain ⟨ka, kc, va, vc, ia, ic, rfl, h⟩ := hv
  have kB : Bl w (w.alloc (.cells (nbox n ka kc va vc ia ic) 61)) := (Bl.refl w).alloc _
  have b1 : (w.alloc (.cells (nbox n ka kc va vc ia ic) 61)).heap[w.heap.size]? = some (.cells (nbox n ka kc va vc ia ic) 61 (0, 0)) := block_new _ _
  have hsz : w.heap.size < (w.alloc (.cells (nbox n ka kc va vc ia ic) 61)).heap.size := by simp
  obtain ⟨_, _, _, hmax⟩ := RdAt.shape h.keys
  obtain ⟨_, _, _, hmax3⟩ := RdAt.shape h.kids
  unfold maxLen at hmax hmax3
  have hk30 := hs.keys
  have Hs : Hid (n.psize = (if n.leaf = false ∧ 0 < n.kids.length then 20 else 16) + n.psumTo n.keys.length) := rfl
  have HL := Lib.hid hl
  clear hl
  unfold nodeV
  unfold nodeV at hv'
  unfold nbox at kB b1 hsz
  go_enter Tryz.func66, Tryz.ntmps66
  cases hf : n.leaf with
  | true =>
    rw [hf] at kB b1 hv' hsz
    have h0 := True.intro
    have q0 := True.intro
    have Hz : Hid (n.psize = 16 + n.psumTo n.keys.length) := by show _ = _; rw [Hs.out, hf]; simp
    clear Hs
    go_wp2_with fail
    clear q0 h0
    generalize w.alloc (.cells #[.bool true, .slice ka n.keys.length kc, .slice va n.values.length vc, .slice ia n.kids.length ic] 61) = W2 at *
    go_loopw [3, 4, 19] (fun s _ i wr => ∃ k : Nat, k ≤ n.keys.length ∧ s = .int .i64 (16 + n.psumTo k) ∧ i = .int .i64 k ∧ Bl W2 wr) (fun _ _ i _ => n.keys.length - (intOf i).toNat)
    case atStart => exact ⟨0, by omega, by simp [ND.psumTo], rfl, Bl.refl _⟩
    case round =>
      obtain ⟨k, hk, rfl, rfl, hB⟩ := hrel
      have i0 : (0 : Int) ≤ (k : Int) := by omega
      have br := below_keeps hB b1 hsz
      have hr := hv'.bl (kB.trans hB)
      have x0 : wr.cell? ⟨w.heap.size, 0, none⟩ = some (.bool true) := (cell_of_block br 0).trans rfl
      have x1 : wr.cell? ⟨w.heap.size, 1, none⟩ = some (.slice ka n.keys.length kc) := (cell_of_block br 1).trans rfl
      have x2 : wr.cell? ⟨w.heap.size, 2, none⟩ = some (.slice va n.values.length vc) := (cell_of_block br 2).trans rfl
      have x3 : wr.cell? ⟨w.heap.size, 3, none⟩ = some (.slice ia n.kids.length ic) := (cell_of_block br 3).trans rfl
      have S0 := n.psumTo_pos k
      have S1 := ND.psumTo_le HL.out k
      by_cases hlt : k < n.keys.length
      · have i1 : (k : Int) < (n.keys.length : Int) := by omega
        have E0 := n.pentry_pos k
        have E1 := ND.pentry_le HL.out k
        have hnx : Hid (n.psumTo (k + 1) = n.psumTo k + n.pentry k) := rfl
        generalize n.psumTo k = S at *
        go_wp2_with (go_at_call 89; refine (pentry_any wr own _ n hr (ND.Lens.of HL.out) hs k hlt).mono ?_; rintro e w3 ⟨rfl, k3⟩)
        go_roundw
        case rel => exact ⟨k + 1, by omega, by rw [hnx.out]; go_num, by go_num, hB.trans k3⟩
        case measure => simp [intOf]; omega
      · obtain rfl : k = n.keys.length := by omega
        go_wp2_with fail
        go_ret
        exact ⟨by rw [Hz.out]; rfl, kB.trans hB⟩
  | false =>
    rw [hf] at kB b1 hv' hsz
    by_cases h0 : 0 < n.kids.length
    · have q0 : (0 : Int) < (n.kids.length : Int) := by omega
      have Hz : Hid (n.psize = 20 + n.psumTo n.keys.length) := by show _ = _; rw [Hs.out, hf]; simp [h0]
      clear Hs
      go_wp2_with fail
      clear q0 h0
      generalize w.alloc (.cells #[.bool false, .slice ka n.keys.length kc, .slice va n.values.length vc, .slice ia n.kids.length ic] 61) = W2 at *
      go_loopw [3, 4, 19] (fun s _ i wr => ∃ k : Nat, k ≤ n.keys.length ∧ s = .int .i64 (20 + n.psumTo k) ∧ i = .int .i64 k ∧ Bl W2 wr) (fun _ _ i _ => n.keys.length - (intOf i).toNat)
      case atStart => exact ⟨0, by omega, by simp [ND.psumTo], rfl, Bl.refl _⟩
      case round =>
        obtain ⟨k, hk, rfl, rfl, hB⟩ := hrel
        have i0 : (0 : Int) ≤ (k : Int) := by omega
        have br := below_keeps hB b1 hsz
        have hr := hv'.bl (kB.trans hB)
        have x0 : wr.cell? ⟨w.heap.size, 0, none⟩ = some (.bool false) := (cell_of_block br 0).trans rfl
        have x1 : wr.cell? ⟨w.heap.size, 1, none⟩ = some (.slice ka n.keys.length kc) := (cell_of_block br 1).trans rfl
        have x2 : wr.cell? ⟨w.heap.size, 2, none⟩ = some (.slice va n.values.length vc) := (cell_of_block br 2).trans rfl
        have x3 : wr.cell? ⟨w.heap.size, 3, none⟩ = some (.slice ia n.kids.length ic) := (cell_of_block br 3).trans rfl
        have S0 := n.psumTo_pos k
        have S1 := ND.psumTo_le HL.out k
        by_cases hlt : k < n.keys.length
        · have i1 : (k : Int) < (n.keys.length : Int) := by omega
          have E0 := n.pentry_pos k
          have E1 := ND.pentry_le HL.out k
          have hnx : Hid (n.psumTo (k + 1) = n.psumTo k + n.pentry k) := rfl
          generalize n.psumTo k = S at *
          go_wp2_with (go_at_call 89; refine (pentry_any wr own _ n hr (ND.Lens.of HL.out) hs k hlt).mono ?_; rintro e w3 ⟨rfl, k3⟩)
          go_roundw
          case rel => exact ⟨k + 1, by omega, by rw [hnx.out]; go_num, by go_num, hB.trans k3⟩
          case measure => simp [intOf]; omega
        · obtain rfl : k = n.keys.length := by omega
          go_wp2_with fail
          go_ret
          exact ⟨by rw [Hz.out]; rfl, kB.trans hB⟩
    · have q0 : ¬ (0 : Int) < (n.kids.length : Int) := by omega
      have Hz : Hid (n.psize = 16 + n.psumTo n.keys.length) := by show _ = _; rw [Hs.out, hf]; simp [h0]
      clear Hs
      go_wp2_with fail
      clear q0 h0
      generalize w.alloc (.cells #[.bool false, .slice ka n.keys.length kc, .slice va n.values.length vc, .slice ia n.kids.length ic] 61) = W2 at *
      go_loopw [3, 4, 19] (fun s _ i wr => ∃ k : Nat, k ≤ n.keys.length ∧ s = .int .i64 (16 + n.psumTo k) ∧ i = .int .i64 k ∧ Bl W2 wr) (fun _ _ i _ => n.keys.length - (intOf i).toNat)
      case atStart => exact ⟨0, by omega, by simp [ND.psumTo], rfl, Bl.refl _⟩
      case round =>
        obtain ⟨k, hk, rfl, rfl, hB⟩ := hrel
        have i0 : (0 : Int) ≤ (k : Int) := by omega
        have br := below_keeps hB b1 hsz
        have hr := hv'.bl (kB.trans hB)
        have x0 : wr.cell? ⟨w.heap.size, 0, none⟩ = some (.bool false) := (cell_of_block br 0).trans rfl
        have x1 : wr.cell? ⟨w.heap.size, 1, none⟩ = some (.slice ka n.keys.length kc) := (cell_of_block br 1).trans rfl
        have x2 : wr.cell? ⟨w.heap.size, 2, none⟩ = some (.slice va n.values.length vc) := (cell_of_block br 2).trans rfl
        have x3 : wr.cell? ⟨w.heap.size, 3, none⟩ = some (.slice ia n.kids.length ic) := (cell_of_block br 3).trans rfl
        have S0 := n.psumTo_pos k
        have S1 := ND.psumTo_le HL.out k
        by_cases hlt : k < n.keys.length
        · have i1 : (k : Int) < (n.keys.length : Int) := by omega
          have E0 := n.pentry_pos k
          have E1 := ND.pentry_le HL.out k
          have hnx : Hid (n.psumTo (k + 1) = n.psumTo k + n.pentry k) := rfl
          generalize n.psumTo k = S at *
          go_wp2_with (go_at_call 89; refine (pentry_any wr own _ n hr (ND.Lens.of HL.out) hs k hlt).mono ?_; rintro e w3 ⟨rfl, k3⟩)
          go_roundw
          case rel => exact ⟨k + 1, by omega, by rw [hnx.out]; go_num, by go_num, hB.trans k3⟩
          case measure => simp [intOf]; omega
        · obtain rfl : k = n.keys.length := by omega
          go_wp2_with fail
          go_ret
          exact ⟨by rw [Hz.out]; rfl, kB.trans hB⟩
end Go.Proofs.YthmimbmlcihkaaaGreat
