/-
  Encode, both sides, where it does not encode.
-/
import Derived.Test.YtjdkalimaldofaaNHigh
namespace Go.Proofs.Ytjdkalimaldofaa
open Go.RowKit
set_option linter.unusedSimpArgs false
set_option linter.unusedVariables false
set_option maxRecDepth 100000 in
set_option maxHeartbeats 2000000 in
theorem encode_err (w : World) (own : Nat → Prop) (v : Value) (n : ND) (size : Int) (hs0 : -9223372036854775808 ≤ size) (hs1 : size ≤ 9223372036854775807) (hv : NodeAt w own v n) (sm : n.Small) (ln : n.Lens) (hbad : ¬ (n.check = 0 ∧ sizeOk size = true ∧ n.psize ≤ size)) :
    Calls Try.prog 16 #[.int .i64 size, v] w fun e w' => e = .returned (.tuple #[.slice none 0 0, .int .i64 (encErr n size)]) ∧ Bl w w' := by
  have hv' := hv
  obtain ⟨ka, kc, va, vc, ia, ic, rfl, h⟩ := hv
  have HE : Hid (encErr n size = if n.check = 0 then (if sizeOk size = true then 2 else 1) else n.check) := rfl
  unfold nodeV
  unfold nodeV at hv'
  have kB : Bl w (w.alloc (.cells #[.bool n.leaf, .slice ka n.keys.length kc, .slice va n.values.length vc, .slice ia n.kids.length ic] 25)) := (Bl.refl w).alloc _
  have b1 : (w.alloc (.cells #[.bool n.leaf, .slice ka n.keys.length kc, .slice va n.values.length vc, .slice ia n.kids.length ic] 25)).heap[w.heap.size]? = some (.cells #[.bool n.leaf, .slice ka n.keys.length kc, .slice va n.values.length vc, .slice ia n.kids.length ic] 25 (0, 0)) := block_new _ _
  by_cases hc : n.check = 0
  · have hc0 : (n.check != 0) = false := by rw [hc]; rfl
    obtain ⟨hl, hsh, -⟩ := ND.check_zero hc
    cases hs : sizeOk size with
    | false =>
      have HF : Hid (encErr n size = 1) := by show _ = _; rw [HE.out, if_pos hc, if_neg (by rw [hs]; decide)]
      clear HE
      go_enter Try.func16, Try.ntmps16
      go_wp2_with fail
      refine (check_any _ _ _ n (hv'.bl kB) sm ln).mono ?_
      rw [hc]
      rintro e w2 ⟨rfl, k2⟩
      have b2 := below_keeps k2 b1 (lt_of_block b1)
      obtain ⟨x0, x1, x2, x3, -, -, -, -⟩ := cells4 b2
      go_wp2_with fail
      refine (sizeright_any _ size hs0 hs1).mono ?_
      rw [hs]
      rintro e w3 ⟨rfl, rfl⟩
      go_wp2_with fail
      go_ret2
      exact ⟨by rw [HF.out]; rfl, kB.trans k2⟩
    | true =>
      have HF : Hid (encErr n size = 2) := by show _ = _; rw [HE.out, if_pos hc, if_pos hs]
      have hgt : size < n.psize := by
        by_cases a : n.psize ≤ size
        · exact absurd ⟨hc, hs, a⟩ hbad
        · omega
      clear HE hbad
      go_enter Try.func16, Try.ntmps16
      go_wp2_with fail
      refine (check_any _ _ _ n (hv'.bl kB) sm ln).mono ?_
      rw [hc]
      rintro e w2 ⟨rfl, k2⟩
      have b2 := below_keeps k2 b1 (lt_of_block b1)
      obtain ⟨x0, x1, x2, x3, -, -, -, -⟩ := cells4 b2
      go_wp2_with fail
      refine (sizeright_any _ size hs0 hs1).mono ?_
      rw [hs]
      rintro e w3 ⟨rfl, rfl⟩
      go_wp2_with fail
      refine (psize_any _ _ _ n (hv'.bl (kB.trans k2)) sm hl).mono ?_
      rintro e w4 ⟨rfl, k4⟩
      go_wp2_with fail
      go_ret2
      exact ⟨by rw [HF.out]; rfl, (kB.trans k2).trans k4⟩
  · have hc1 : (n.check != 0) = true := by simpa using hc
    have HF : Hid (encErr n size = n.check) := by show _ = _; rw [HE.out, if_neg hc]
    clear HE hbad
    go_enter Try.func16, Try.ntmps16
    go_wp2_with fail
    refine (check_any _ _ _ n (hv'.bl kB) sm ln).mono ?_
    rintro e w2 ⟨rfl, k2⟩
    go_wp2_with fail
    go_ret2
    exact ⟨by rw [HF.out]; rfl, kB.trans k2⟩
set_option maxRecDepth 100000 in
set_option maxHeartbeats 2000000 in
theorem rencode_err (w : World) (own : Nat → Prop) (v : Value) (n : ND) (size : Int) (hs0 : -9223372036854775808 ≤ size) (hs1 : size ≤ 9223372036854775807) (hv : NodeAt w own v n) (sm : n.Small) (ln : n.Lens) (hbad : ¬ (n.check = 0 ∧ sizeOk size = true ∧ n.psize ≤ size)) :
    Calls Try.prog 17 #[.int .i64 size, v] w fun e w' => e = .returned (.tuple #[.slice none 0 0, .int .i64 (encErr n size)]) ∧ Bl w w' := by
  have hv' := hv
  obtain ⟨ka, kc, va, vc, ia, ic, rfl, h⟩ := hv
  have HE : Hid (encErr n size = if n.check = 0 then (if sizeOk size = true then 2 else 1) else n.check) := rfl
  unfold nodeV
  unfold nodeV at hv'
  have kB : Bl w (w.alloc (.cells #[.bool n.leaf, .slice ka n.keys.length kc, .slice va n.values.length vc, .slice ia n.kids.length ic] 25)) := (Bl.refl w).alloc _
  have b1 : (w.alloc (.cells #[.bool n.leaf, .slice ka n.keys.length kc, .slice va n.values.length vc, .slice ia n.kids.length ic] 25)).heap[w.heap.size]? = some (.cells #[.bool n.leaf, .slice ka n.keys.length kc, .slice va n.values.length vc, .slice ia n.kids.length ic] 25 (0, 0)) := block_new _ _
  by_cases hc : n.check = 0
  · have hc0 : (n.check != 0) = false := by rw [hc]; rfl
    obtain ⟨hl, hsh, -⟩ := ND.check_zero hc
    cases hs : sizeOk size with
    | false =>
      have HF : Hid (encErr n size = 1) := by show _ = _; rw [HE.out, if_pos hc, if_neg (by rw [hs]; decide)]
      clear HE
      go_enter Try.func17, Try.ntmps17
      go_wp2_with fail
      refine (rcheck_any _ _ _ n (hv'.bl kB) sm ln).mono ?_
      rw [hc]
      rintro e w2 ⟨rfl, k2⟩
      have b2 := below_keeps k2 b1 (lt_of_block b1)
      obtain ⟨x0, x1, x2, x3, -, -, -, -⟩ := cells4 b2
      go_wp2_with fail
      refine (power_any _ size).mono ?_
      rw [hs]
      rintro e w3 ⟨rfl, rfl⟩
      go_wp2_with fail
      go_ret2
      exact ⟨by rw [HF.out]; rfl, kB.trans k2⟩
    | true =>
      have HF : Hid (encErr n size = 2) := by show _ = _; rw [HE.out, if_pos hc, if_pos hs]
      have hgt : size < n.psize := by
        by_cases a : n.psize ≤ size
        · exact absurd ⟨hc, hs, a⟩ hbad
        · omega
      rw [psize_rsize (ND.shape_form hsh)] at hgt
      clear HE hbad
      go_enter Try.func17, Try.ntmps17
      go_wp2_with fail
      refine (rcheck_any _ _ _ n (hv'.bl kB) sm ln).mono ?_
      rw [hc]
      rintro e w2 ⟨rfl, k2⟩
      have b2 := below_keeps k2 b1 (lt_of_block b1)
      obtain ⟨x0, x1, x2, x3, -, -, -, -⟩ := cells4 b2
      go_wp2_with fail
      refine (power_any _ size).mono ?_
      rw [hs]
      rintro e w3 ⟨rfl, rfl⟩
      go_wp2_with fail
      refine (rsize_any _ _ _ n (hv'.bl (kB.trans k2)) sm hl).mono ?_
      rintro e w4 ⟨rfl, k4⟩
      go_wp2_with fail
      go_ret2
      exact ⟨by rw [HF.out]; rfl, (kB.trans k2).trans k4⟩
  · have hc1 : (n.check != 0) = true := by simpa using hc
    have HF : Hid (encErr n size = n.check) := by show _ = _; rw [HE.out, if_neg hc]
    clear HE hbad
    go_enter Try.func17, Try.ntmps17
    go_wp2_with fail
    refine (rcheck_any _ _ _ n (hv'.bl kB) sm ln).mono ?_
    rintro e w2 ⟨rfl, k2⟩
    go_wp2_with fail
    go_ret2
    exact ⟨by rw [HF.out]; rfl, kB.trans k2⟩
end Go.Proofs.Ytjdkalimaldofaa
