/-
  The document's Size.
-/
import Derived.Test.YtjdkalimaldofaaNSize
namespace Go.Proofs.Ytjdkalimaldofaa
open Go.RowKit
set_option linter.unusedSimpArgs false
set_option linter.unusedVariables false

/-- the first k entries' bytes -/
def ND.sumTo (n : ND) : Nat → Int
  | 0 => 0
  | k + 1 => n.sumTo k + n.rentry k
def ND.rsize (n : ND) : Int := (if n.leaf then 16 else 20) + n.sumTo n.keys.length
theorem ND.rentry_pos (n : ND) (i : Nat) : 0 ≤ n.rentry i := by
  unfold ND.rentry
  have := sz_pos n.keys i
  have := sz_pos n.values i
  split <;> omega
theorem sz_le {l : List ByteArray} {b : Nat} (h : ∀ k ∈ l, k.size ≤ b) (i : Nat) : sz l i ≤ b := by
  by_cases hi : i < l.length
  · have := h _ (List.getElem_mem hi)
    rw [sz_get hi]; omega
  · rw [sz_off (by omega)]; omega
theorem ND.rentry_le {n : ND} (h : n.lens = true) (i : Nat) : n.rentry i ≤ 130 := by
  simp only [ND.lens, Bool.and_eq_true, List.all_eq_true] at h
  have h1 := sz_le (l := n.keys) (b := 64) (fun k hk => by have := h.1 k hk; simp [keyOk] at this; omega) i
  have h2 := sz_le (l := n.values) (b := 64) (fun k hk => by have := h.2 k hk; simp [valOk] at this; omega) i
  unfold ND.rentry
  split <;> omega
theorem ND.sumTo_pos (n : ND) (k : Nat) : 0 ≤ n.sumTo k := by
  induction k with
  | zero => exact Int.le_refl _
  | succ k ih => have := n.rentry_pos k; show 0 ≤ n.sumTo k + n.rentry k; omega
theorem ND.sumTo_le {n : ND} (h : n.lens = true) (k : Nat) : n.sumTo k ≤ 130 * k := by
  induction k with
  | zero => exact Int.le_refl _
  | succ k ih => have := ND.rentry_le h k; show n.sumTo k + n.rentry k ≤ _; omega
theorem ND.Lens.of {n : ND} (h : n.lens = true) : n.Lens := by
  simp only [ND.lens, Bool.and_eq_true, List.all_eq_true] at h
  exact ⟨fun k hk => by have := h.1 k hk; simp [keyOk] at this; omega, fun k hk => by have := h.2 k hk; simp [valOk] at this; omega⟩

theorem NodeAt.bl {w w' : World} {own : Nat → Prop} {v : Value} {n : ND} (h : NodeAt w own v n) (b : Bl w w') : NodeAt w' own v n := by
  obtain ⟨ka, kc, va, vc, ia, ic, rfl, h⟩ := h
  exact ⟨ka, kc, va, vc, ia, ic, rfl, h.below b⟩
set_option maxHeartbeats 1000000 in
theorem rsize_any (w : World) (own : Nat → Prop) (v : Value) (n : ND) (hv : NodeAt w own v n) (hs : n.Small) (hl : n.lens = true) :
    Calls Try.prog 14 #[v] w fun e w' => e = .returned (.int .i64 n.rsize) ∧ Bl w w' := by
  have hv' := hv
  obtain ⟨ka, kc, va, vc, ia, ic, rfl, h⟩ := hv
  have kB : Bl w (w.alloc (.cells (nbox n ka kc va vc ia ic) 25)) := (Bl.refl w).alloc _
  have b1 : (w.alloc (.cells (nbox n ka kc va vc ia ic) 25)).heap[w.heap.size]? = some (.cells (nbox n ka kc va vc ia ic) 25 (0, 0)) := block_new _ _
  have hsz : w.heap.size < (w.alloc (.cells (nbox n ka kc va vc ia ic) 25)).heap.size := by simp
  obtain ⟨_, _, _, hmax⟩ := RdAt.shape h.keys
  unfold maxLen at hmax
  have hk30 := hs.keys
  have Hs : Hid (n.rsize = (if n.leaf then 16 else 20) + n.sumTo n.keys.length) := rfl
  have HL := Lib.hid hl
  clear hl
  unfold nodeV
  unfold nodeV at hv'
  unfold nbox at kB b1 hsz
  go_enter Try.func14, Try.ntmps14
  cases hf : n.leaf with
  | false =>
    rw [hf] at kB b1 hv' hsz
    rw [hf] at Hs
    go_wp2_with fail
    generalize w.alloc (.cells #[.bool false, .slice ka n.keys.length kc, .slice va n.values.length vc, .slice ia n.kids.length ic] 25) = W2 at *
    go_loopw [3, 4] (fun s i wr => ∃ k : Nat, k ≤ n.keys.length ∧ s = .int .i64 (20 + n.sumTo k) ∧ i = .int .i64 k ∧ Bl W2 wr) (fun _ i _ => n.keys.length - (intOf i).toNat)
    case atStart => exact ⟨0, by omega, by simp [ND.sumTo], rfl, Bl.refl _⟩
    case round =>
      obtain ⟨k, hk, rfl, rfl, hB⟩ := hrel
      have i0 : (0 : Int) ≤ (k : Int) := by omega
      have br := below_keeps hB b1 hsz
      have hr := hv'.bl (kB.trans hB)
      have x0 : wr.cell? ⟨w.heap.size, 0, none⟩ = some (.bool false) := (cell_of_block br 0).trans rfl
      have x1 : wr.cell? ⟨w.heap.size, 1, none⟩ = some (.slice ka n.keys.length kc) := (cell_of_block br 1).trans rfl
      have x2 : wr.cell? ⟨w.heap.size, 2, none⟩ = some (.slice va n.values.length vc) := (cell_of_block br 2).trans rfl
      have x3 : wr.cell? ⟨w.heap.size, 3, none⟩ = some (.slice ia n.kids.length ic) := (cell_of_block br 3).trans rfl
      have S0 := n.sumTo_pos k
      have S1 := ND.sumTo_le HL.out k
      by_cases hlt : k < n.keys.length
      · have i1 : (k : Int) < (n.keys.length : Int) := by omega
        have E0 := n.rentry_pos k
        have E1 := ND.rentry_le HL.out k
        have hnx : Hid (n.sumTo (k + 1) = n.sumTo k + n.rentry k) := rfl
        generalize n.sumTo k = S at *
        go_wp2_with (go_at_call 34; refine (rentry_any wr own _ n hr (ND.Lens.of HL.out) k hlt).mono ?_; rintro e w3 ⟨rfl, k3⟩)
        go_roundw
        case rel => exact ⟨k + 1, by omega, by rw [hnx.out]; go_num, by go_num, hB.trans k3⟩
        case measure => simp [intOf]; omega
      · obtain rfl : k = n.keys.length := by omega
        go_wp2_with fail
        go_ret
        exact ⟨by rw [Hs.out]; rfl, kB.trans hB⟩
  | true =>
    rw [hf] at kB b1 hv' hsz
    rw [hf] at Hs
    go_wp2_with fail
    generalize w.alloc (.cells #[.bool true, .slice ka n.keys.length kc, .slice va n.values.length vc, .slice ia n.kids.length ic] 25) = W2 at *
    go_loopw [3, 4] (fun s i wr => ∃ k : Nat, k ≤ n.keys.length ∧ s = .int .i64 (16 + n.sumTo k) ∧ i = .int .i64 k ∧ Bl W2 wr) (fun _ i _ => n.keys.length - (intOf i).toNat)
    case atStart => exact ⟨0, by omega, by simp [ND.sumTo], rfl, Bl.refl _⟩
    case round =>
      obtain ⟨k, hk, rfl, rfl, hB⟩ := hrel
      have i0 : (0 : Int) ≤ (k : Int) := by omega
      have br := below_keeps hB b1 hsz
      have hr := hv'.bl (kB.trans hB)
      have x0 : wr.cell? ⟨w.heap.size, 0, none⟩ = some (.bool true) := (cell_of_block br 0).trans rfl
      have x1 : wr.cell? ⟨w.heap.size, 1, none⟩ = some (.slice ka n.keys.length kc) := (cell_of_block br 1).trans rfl
      have x2 : wr.cell? ⟨w.heap.size, 2, none⟩ = some (.slice va n.values.length vc) := (cell_of_block br 2).trans rfl
      have x3 : wr.cell? ⟨w.heap.size, 3, none⟩ = some (.slice ia n.kids.length ic) := (cell_of_block br 3).trans rfl
      have S0 := n.sumTo_pos k
      have S1 := ND.sumTo_le HL.out k
      by_cases hlt : k < n.keys.length
      · have i1 : (k : Int) < (n.keys.length : Int) := by omega
        have E0 := n.rentry_pos k
        have E1 := ND.rentry_le HL.out k
        have hnx : Hid (n.sumTo (k + 1) = n.sumTo k + n.rentry k) := rfl
        generalize n.sumTo k = S at *
        go_wp2_with (go_at_call 34; refine (rentry_any wr own _ n hr (ND.Lens.of HL.out) k hlt).mono ?_; rintro e w3 ⟨rfl, k3⟩)
        go_roundw
        case rel => exact ⟨k + 1, by omega, by rw [hnx.out]; go_num, by go_num, hB.trans k3⟩
        case measure => simp [intOf]; omega
      · obtain rfl : k = n.keys.length := by omega
        go_wp2_with fail
        go_ret
        exact ⟨by rw [Hs.out]; rfl, kB.trans hB⟩
end Go.Proofs.Ytjdkalimaldofaa
