/-
  The document's Check.
-/
import Derived.Test.YtjdkalimaldofaaNShape
namespace Go.Proofs.Ytjdkalimaldofaa
open Go.RowKit
set_option linter.unusedSimpArgs false
set_option linter.unusedVariables false

/-- 0: a node may be; 90: no node; 91: no entry -/
noncomputable def ND.check (n : ND) : Int :=
  if n.lens = true then (if n.shape = true ∧ (n.leaf = true ∨ n.keys.length ≠ 0) then 0 else 90) else 91
theorem ND.Lens.big {n : ND} (h : n.Lens) : (∀ k ∈ n.keys, k.size ≤ 9223372036854775807) ∧ (∀ k ∈ n.values, k.size ≤ 9223372036854775807) :=
  ⟨fun k hk => by have := h.keys k hk; omega, fun k hk => by have := h.values k hk; omega⟩
set_option maxHeartbeats 2000000 in
theorem rcheck_any (w : World) (own : Nat → Prop) (v : Value) (n : ND) (hv : NodeAt w own v n) (hs : n.Small) (ln : n.Lens) :
    Calls Try.prog 20 #[v] w fun e w' => e = .returned (.int .i64 n.check) ∧ Bl w w' := by
  have hv' := hv
  obtain ⟨ka, kc, va, vc, ia, ic, rfl, h⟩ := hv
  have kB : Bl w (w.alloc (.cells (nbox n ka kc va vc ia ic) 25)) := (Bl.refl w).alloc _
  have b1 : (w.alloc (.cells (nbox n ka kc va vc ia ic) 25)).heap[w.heap.size]? = some (.cells (nbox n ka kc va vc ia ic) 25 (0, 0)) := block_new _ _
  have hsz : w.heap.size < (w.alloc (.cells (nbox n ka kc va vc ia ic) 25)).heap.size := by simp
  have hA := hv'.bl kB
  obtain ⟨_, _, _, hmax⟩ := RdAt.shape h.keys
  unfold maxLen at hmax
  have LB := Lib.hid ln.big
  unfold nodeV
  unfold nodeV at hv' hA
  unfold nbox at kB b1 hsz hA
  have HC : Hid (n.check = if n.lens = true then (if n.shape = true ∧ (n.leaf = true ∨ n.keys.length ≠ 0) then 0 else 90) else 91) := rfl
  cases hl : n.lens with
  | false =>
    have HF : Hid (n.check = 91) := by show _ = _; rw [HC.out, hl]; rfl
    go_enter Try.func20, Try.ntmps20
    go_wp2_with (go_at_call 51; refine (lengths_any _ own _ n hA LB.out.1 LB.out.2).mono ?_; rintro e w3 ⟨rfl, k3⟩)
    go_ret
    exact ⟨by rw [HF.out]; rfl, kB.trans k3⟩
  | true =>
    cases hp : n.shape with
    | false =>
      have HF : Hid (n.check = 90) := by show _ = _; rw [HC.out, hl, hp]; rfl
      go_enter Try.func20, Try.ntmps20
      go_wp2_with (first | (go_at_call 51; refine (lengths_any _ own _ n hA LB.out.1 LB.out.2).mono ?_; rintro e w3 ⟨rfl, k3⟩; (have br := below_keeps k3 b1 hsz); (have x0 := (cell_of_block br 0).trans rfl); (have x1 := (cell_of_block br 1).trans rfl); (have x2 := (cell_of_block br 2).trans rfl); (have x3 := (cell_of_block br 3).trans rfl)) | (go_at_call 52; refine (shape_any _ own _ n (hA.bl k3) hs).mono ?_; rintro e w4 ⟨rfl, k4⟩))
      go_ret
      exact ⟨by rw [HF.out]; rfl, kB.trans (k3.trans k4)⟩
    | true =>
      cases hf : n.leaf with
      | true =>
        rw [hf] at kB b1 hsz hv' hA
        have HF : Hid (n.check = 0) := by show _ = _; rw [HC.out, hl, hp]; simp [hf]
        clear HC
        go_enter Try.func20, Try.ntmps20
        go_wp2_with (first | (go_at_call 51; refine (lengths_any _ own _ n hA LB.out.1 LB.out.2).mono ?_; rintro e w3 ⟨rfl, k3⟩; (have br := below_keeps k3 b1 hsz); (have x0 := (cell_of_block br 0).trans rfl); (have x1 := (cell_of_block br 1).trans rfl); (have x2 := (cell_of_block br 2).trans rfl); (have x3 := (cell_of_block br 3).trans rfl); (have s3 := Nat.lt_of_lt_of_le hsz k3.size)) | (go_at_call 52; refine (shape_any _ own _ n (hA.bl k3) hs).mono ?_; rintro e w4 ⟨rfl, k4⟩; (have bq := below_keeps k4 br s3); (have y0 := (cell_of_block bq 0).trans rfl); (have y1 := (cell_of_block bq 1).trans rfl)))
        go_ret
        exact ⟨by rw [HF.out]; rfl, kB.trans (k3.trans k4)⟩
      | false =>
        rw [hf] at kB b1 hsz hv' hA
        by_cases h0 : n.keys.length = 0
        · have q0 : (n.keys.length : Int) = 0 := by omega
          have HF : Hid (n.check = 90) := by show _ = _; rw [HC.out, hl, hp]; simp [hf, h0]
          clear HC h0
          go_enter Try.func20, Try.ntmps20
          go_wp2_with (first | (go_at_call 51; refine (lengths_any _ own _ n hA LB.out.1 LB.out.2).mono ?_; rintro e w3 ⟨rfl, k3⟩; (have br := below_keeps k3 b1 hsz); (have x0 := (cell_of_block br 0).trans rfl); (have x1 := (cell_of_block br 1).trans rfl); (have x2 := (cell_of_block br 2).trans rfl); (have x3 := (cell_of_block br 3).trans rfl); (have s3 := Nat.lt_of_lt_of_le hsz k3.size)) | (go_at_call 52; refine (shape_any _ own _ n (hA.bl k3) hs).mono ?_; rintro e w4 ⟨rfl, k4⟩; (have bq := below_keeps k4 br s3); (have y0 := (cell_of_block bq 0).trans rfl); (have y1 := (cell_of_block bq 1).trans rfl)))
          go_ret
          exact ⟨by rw [HF.out]; rfl, kB.trans (k3.trans k4)⟩
        · have q0 : ¬ (n.keys.length : Int) = 0 := by omega
          have q1 : ((n.keys.length : Int) == 0) = false := by simpa using q0
          have HF : Hid (n.check = 0) := by show _ = _; rw [HC.out, hl, hp]; simp [hf, h0]
          clear HC h0
          go_enter Try.func20, Try.ntmps20
          go_wp2_with (first | (go_at_call 51; refine (lengths_any _ own _ n hA LB.out.1 LB.out.2).mono ?_; rintro e w3 ⟨rfl, k3⟩; (have br := below_keeps k3 b1 hsz); (have x0 := (cell_of_block br 0).trans rfl); (have x1 := (cell_of_block br 1).trans rfl); (have x2 := (cell_of_block br 2).trans rfl); (have x3 := (cell_of_block br 3).trans rfl); (have s3 := Nat.lt_of_lt_of_le hsz k3.size)) | (go_at_call 52; refine (shape_any _ own _ n (hA.bl k3) hs).mono ?_; rintro e w4 ⟨rfl, k4⟩; (have bq := below_keeps k4 br s3); (have y0 := (cell_of_block bq 0).trans rfl); (have y1 := (cell_of_block bq 1).trans rfl)))
          go_ret
          exact ⟨by rw [HF.out]; rfl, kB.trans (k3.trans k4)⟩
end Go.Proofs.Ytjdkalimaldofaa
