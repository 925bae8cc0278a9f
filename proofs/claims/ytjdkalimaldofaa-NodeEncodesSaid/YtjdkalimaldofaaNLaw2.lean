/-
  NodeEncodes: the walk.
-/
import Derived.Test.YtjdkalimaldofaaNEncode
import Derived.Test.YtjdkalimaldofaaNLives
import Derived.Test.YtjdkalimaldofaaNPCheck
import Derived.Test.YtjdkalimaldofaaNSize4
namespace Go.Proofs.Ytjdkalimaldofaa
open Go.RowKit
set_option linter.unusedSimpArgs false
set_option linter.unusedVariables false
theorem rd_nil (w : World) : RdAt w (fun _ => False) 1 (.slice none 0 0) 0 (bcells []) := (SlAt.nil w _ 5 1 none).rd
set_option maxRecDepth 100000 in
set_option maxHeartbeats 4000000 in
theorem encodes_err (w : World) (own : Nat → Prop) (v : Value) (n : ND) (size : Int) (hs0 : -9223372036854775808 ≤ size) (hs1 : size ≤ 9223372036854775807) (hv : NodeAt w own v n) (sm : n.Small) (ln : n.Lens) (hbad : ¬ (n.check = 0 ∧ sizeOk size = true ∧ n.psize ≤ size)) :
    Calls Try.prog 4 #[.int .i64 size, v] w fun e w' => e = .returned (.bool true) ∧ Bl w w' := by
  have hv' := hv
  obtain ⟨ka, kc, va, vc, ia, ic, rfl, h⟩ := hv
  unfold nodeV
  unfold nodeV at hv'
  have kB : Bl w (w.alloc (.cells #[.bool n.leaf, .slice ka n.keys.length kc, .slice va n.values.length vc, .slice ia n.kids.length ic] 25)) := (Bl.refl w).alloc _
  have bB1 : (w.alloc (.cells #[.bool n.leaf, .slice ka n.keys.length kc, .slice va n.values.length vc, .slice ia n.kids.length ic] 25)).heap[w.heap.size]? = some (.cells #[.bool n.leaf, .slice ka n.keys.length kc, .slice va n.values.length vc, .slice ia n.kids.length ic] 25 (0, 0)) := block_new _ _
  have lB := lt_of_block bB1
  obtain ⟨cB0, cB1, cB2, cB3, -, -, -, -⟩ := cells4 bB1
  go_enter Try.func4, Try.ntmps4
  go_wp2_with fail
  generalize hW1 : w.alloc (.cells #[.bool n.leaf, .slice ka n.keys.length kc, .slice va n.values.length vc, .slice ia n.kids.length ic] 25) = W1 at *
  generalize hD1 : w.heap.size = D1 at *
  clear hW1
  refine (rcopy_any W1 _ _ n (hv'.bl kB) sm).mono ?_
  rintro e w3 ⟨⟨v3, rfl, ka3, kc3, va3, vc3, ia3, ic3, rfl, q3⟩, k3⟩
  have K3 := kB.trans k3
  unfold nodeV
  clear cB0 cB1 cB2 cB3
  have bB3 := below_keeps k3 bB1 (lt_of_block bB1)
  have lB3 := lt_of_block bB3
  have A3 : Bl w3 (w3.alloc (.cells #[.bool n.leaf, .slice ka3 n.keys.length kc3, .slice va3 n.values.length vc3, .slice ia3 n.kids.length ic3] 25)) := (Bl.refl _).alloc _
  have K4 := K3.trans A3
  have bO4 : (w3.alloc (.cells #[.bool n.leaf, .slice ka3 n.keys.length kc3, .slice va3 n.values.length vc3, .slice ia3 n.kids.length ic3] 25)).heap[w3.heap.size]? = some (.cells #[.bool n.leaf, .slice ka3 n.keys.length kc3, .slice va3 n.values.length vc3, .slice ia3 n.kids.length ic3] 25 (0, 0)) := block_new _ _
  have bB4 := below_keeps A3 bB3 (lt_of_block bB3)
  have hO := q3.below A3
  have s3 := K3.size
  obtain ⟨cB0, cB1, cB2, cB3, -, -, -, -⟩ := cells4 bB4
  obtain ⟨cO0, cO1, cO2, cO3, -, -, -, -⟩ := cells4 bO4
  go_wp2_with fail
  generalize hW4 : w3.alloc (.cells #[.bool n.leaf, .slice ka3 n.keys.length kc3, .slice va3 n.values.length vc3, .slice ia3 n.kids.length ic3] 25) = W4 at *
  generalize hD3 : w3.heap.size = D3 at *
  clear hW4 A3 K3 k3 bB3 lB3 q3 bB1 lB kB
  refine (encode_err W4 _ _ n size hs0 hs1 ⟨_, _, _, _, _, _, rfl, hO⟩ sm ln hbad).mono ?_
  rintro e w5 ⟨rfl, k5⟩
  clear cB0 cB1 cB2 cB3 cO0 cO1 cO2 cO3
  have bB5 := below_keeps k5 bB4 (lt_of_block bB4)
  have bO5 := below_keeps k5 bO4 (lt_of_block bO4)
  obtain ⟨cB0, cB1, cB2, cB3, -, -, -, -⟩ := cells4 bB5
  obtain ⟨cO0, cO1, cO2, cO3, -, -, -, -⟩ := cells4 bO5
  go_wp2_with fail
  refine (rencode_err w5 _ _ n size hs0 hs1 (hv'.bl (K4.trans k5)) sm ln hbad).mono ?_
  rintro e w6 ⟨rfl, k6⟩
  clear cB0 cB1 cB2 cB3 cO0 cO1 cO2 cO3
  have bB6 := below_keeps k6 bB5 (lt_of_block bB5)
  have bO6 := below_keeps k6 bO5 (lt_of_block bO5)
  have K6 := (K4.trans k5).trans k6
  have hO6 := hO.below (k5.trans k6)
  obtain ⟨cB0, cB1, cB2, cB3, -, -, -, -⟩ := cells4 bB6
  obtain ⟨cO0, cO1, cO2, cO3, -, -, -, -⟩ := cells4 bO6
  clear bB4 bO4 bB5 bO5 k5 k6 K4 hO
  have FK : Hid (∀ w', Bl w6 w' → w'.cell? ⟨D1, 0, none⟩ = some (.bool n.leaf) ∧ w'.cell? ⟨D1, 1, none⟩ = some (.slice ka n.keys.length kc) ∧ w'.cell? ⟨D1, 2, none⟩ = some (.slice va n.values.length vc) ∧ w'.cell? ⟨D1, 3, none⟩ = some (.slice ia n.kids.length ic) ∧ w'.cell? ⟨D3, 0, none⟩ = some (.bool n.leaf) ∧ w'.cell? ⟨D3, 1, none⟩ = some (.slice ka3 n.keys.length kc3) ∧ w'.cell? ⟨D3, 2, none⟩ = some (.slice va3 n.values.length vc3) ∧ w'.cell? ⟨D3, 3, none⟩ = some (.slice ia3 n.kids.length ic3)) := fun w' kk => by
    have q1 := cells4 (below_keeps kk bB6 (lt_of_block bB6))
    have q2 := cells4 (below_keeps kk bO6 (lt_of_block bO6))
    exact ⟨q1.1, q1.2.1, q1.2.2.1, q1.2.2.2.1, q2.1, q2.2.1, q2.2.2.1, q2.2.2.2.1⟩
  have FV : Hid (∀ w', Bl w6 w' → NodeAt w' own (.agg #[.bool n.leaf, .slice ka n.keys.length kc, .slice va n.values.length vc, .slice ia n.kids.length ic]) n) := fun w' kk => hv'.bl (K6.trans kk)
  have FO : Hid (∀ w', Bl w6 w' → NodeAt w' (fun k => W1.heap.size ≤ k) (.agg #[.bool n.leaf, .slice ka3 n.keys.length kc3, .slice va3 n.values.length vc3, .slice ia3 n.kids.length ic3]) n) := fun w' kk => NodeAt.bl ⟨_, _, _, _, _, _, rfl, hO6⟩ kk
  have hne : (encErr n size != encErr n size) = false := by simp
  have hne2 : (encErr n size != 0) = true := by simpa using encErr_ne n size
  have hcc : (n.check != n.check) = false := by simp
  clear hv' hO6 h bB6 bO6
  by_cases hck : n.check = 0
  · obtain ⟨hl, hsh, -⟩ := ND.check_zero hck
    have hpr : (n.psize != n.rsize) = false := by rw [psize_rsize (ND.shape_form hsh)]; simp
    have HLN := Lib.hid hl
    have hckb : (n.check == 0) = true := by simpa using hck
    clear hck hl hsh hbad
    go_wp2_with fail
    first | go_region_held3 (fun w' => w'.cell? ⟨D1, 0, none⟩ = some (.bool n.leaf) ∧ w'.cell? ⟨D1, 1, none⟩ = some (.slice ka n.keys.length kc) ∧ w'.cell? ⟨D1, 2, none⟩ = some (.slice va n.values.length vc) ∧ w'.cell? ⟨D1, 3, none⟩ = some (.slice ia n.kids.length ic) ∧ w'.cell? ⟨D3, 0, none⟩ = some (.bool n.leaf) ∧ w'.cell? ⟨D3, 1, none⟩ = some (.slice ka3 n.keys.length kc3) ∧ w'.cell? ⟨D3, 2, none⟩ = some (.slice va3 n.values.length vc3) ∧ w'.cell? ⟨D3, 3, none⟩ = some (.slice ia3 n.kids.length ic3)) (exact FK.out _ (by ((repeat (first | with_reducible exact Bl.refl _ | with_reducible refine Bl.trans ?_ k14 | with_reducible refine Bl.trans ?_ k13 | with_reducible refine Bl.trans ?_ k12 | with_reducible refine Bl.trans ?_ k11 | with_reducible refine Bl.trans ?_ k10 | with_reducible refine Bl.trans ?_ k9 | with_reducible refine Bl.trans ?_ k8 | with_reducible refine Bl.trans ?_ k7 | with_reducible refine Bl.drew ?_)); done))) ((first | (go_at_call 8; refine (lives_any _).mono ?_; rintro e w7 ⟨rfl, k7⟩) | (go_at_call 18; refine (samebytes_any _ _ _ _ _ 0 [] (rd_nil _) (rd_nil _)).mono ?_; rintro e w8 ⟨rfl, k8⟩) | (go_at_call 19; refine (check_any _ _ _ n (FO.out _ (by ((repeat (first | with_reducible exact Bl.refl _ | with_reducible refine Bl.trans ?_ k14 | with_reducible refine Bl.trans ?_ k13 | with_reducible refine Bl.trans ?_ k12 | with_reducible refine Bl.trans ?_ k11 | with_reducible refine Bl.trans ?_ k10 | with_reducible refine Bl.trans ?_ k9 | with_reducible refine Bl.trans ?_ k8 | with_reducible refine Bl.trans ?_ k7 | with_reducible refine Bl.drew ?_)); done))) sm ln).mono ?_; rintro e w9 ⟨rfl, k9⟩) | (go_at_call 20; have := k10; refine (rcheck_any _ _ _ n (FV.out _ (by ((repeat (first | with_reducible exact Bl.refl _ | with_reducible refine Bl.trans ?_ k14 | with_reducible refine Bl.trans ?_ k13 | with_reducible refine Bl.trans ?_ k12 | with_reducible refine Bl.trans ?_ k11 | with_reducible refine Bl.trans ?_ k10 | with_reducible refine Bl.trans ?_ k9 | with_reducible refine Bl.trans ?_ k8 | with_reducible refine Bl.trans ?_ k7 | with_reducible refine Bl.drew ?_)); done))) sm ln).mono ?_; rintro e w11 ⟨rfl, k11⟩) | (go_at_call 20; refine (rcheck_any _ _ _ n (FV.out _ (by ((repeat (first | with_reducible exact Bl.refl _ | with_reducible refine Bl.trans ?_ k14 | with_reducible refine Bl.trans ?_ k13 | with_reducible refine Bl.trans ?_ k12 | with_reducible refine Bl.trans ?_ k11 | with_reducible refine Bl.trans ?_ k10 | with_reducible refine Bl.trans ?_ k9 | with_reducible refine Bl.trans ?_ k8 | with_reducible refine Bl.trans ?_ k7 | with_reducible refine Bl.drew ?_)); done))) sm ln).mono ?_; rintro e w10 ⟨rfl, k10⟩) | (go_at_call 15; refine (psize_any _ _ _ n (FO.out _ (by ((repeat (first | with_reducible exact Bl.refl _ | with_reducible refine Bl.trans ?_ k14 | with_reducible refine Bl.trans ?_ k13 | with_reducible refine Bl.trans ?_ k12 | with_reducible refine Bl.trans ?_ k11 | with_reducible refine Bl.trans ?_ k10 | with_reducible refine Bl.trans ?_ k9 | with_reducible refine Bl.trans ?_ k8 | with_reducible refine Bl.trans ?_ k7 | with_reducible refine Bl.drew ?_)); done))) sm HLN.out).mono ?_; rintro e w12 ⟨rfl, k12⟩) | (go_at_call 14; refine (rsize_any _ _ _ n (FV.out _ (by ((repeat (first | with_reducible exact Bl.refl _ | with_reducible refine Bl.trans ?_ k14 | with_reducible refine Bl.trans ?_ k13 | with_reducible refine Bl.trans ?_ k12 | with_reducible refine Bl.trans ?_ k11 | with_reducible refine Bl.trans ?_ k10 | with_reducible refine Bl.trans ?_ k9 | with_reducible refine Bl.trans ?_ k8 | with_reducible refine Bl.trans ?_ k7 | with_reducible refine Bl.drew ?_)); done))) sm HLN.out).mono ?_; rintro e w13 ⟨rfl, k13⟩) | (go_at_call 12; refine (same_nodes _ _ _ _ _ n (FO.out _ (by ((repeat (first | with_reducible exact Bl.refl _ | with_reducible refine Bl.trans ?_ k14 | with_reducible refine Bl.trans ?_ k13 | with_reducible refine Bl.trans ?_ k12 | with_reducible refine Bl.trans ?_ k11 | with_reducible refine Bl.trans ?_ k10 | with_reducible refine Bl.trans ?_ k9 | with_reducible refine Bl.trans ?_ k8 | with_reducible refine Bl.trans ?_ k7 | with_reducible refine Bl.drew ?_)); done))) (FV.out _ (by ((repeat (first | with_reducible exact Bl.refl _ | with_reducible refine Bl.trans ?_ k14 | with_reducible refine Bl.trans ?_ k13 | with_reducible refine Bl.trans ?_ k12 | with_reducible refine Bl.trans ?_ k11 | with_reducible refine Bl.trans ?_ k10 | with_reducible refine Bl.trans ?_ k9 | with_reducible refine Bl.trans ?_ k8 | with_reducible refine Bl.trans ?_ k7 | with_reducible refine Bl.drew ?_)); done)))).mono ?_; rintro e w14 ⟨rfl, k14⟩))) | fail
    all_goals
      go_wp2_with fail
      go_ret
      exact ⟨rfl, K6.trans (by ((repeat (first | with_reducible exact Bl.refl _ | with_reducible refine Bl.trans ?_ k14 | with_reducible refine Bl.trans ?_ k13 | with_reducible refine Bl.trans ?_ k12 | with_reducible refine Bl.trans ?_ k11 | with_reducible refine Bl.trans ?_ k10 | with_reducible refine Bl.trans ?_ k9 | with_reducible refine Bl.trans ?_ k8 | with_reducible refine Bl.trans ?_ k7 | with_reducible refine Bl.drew ?_)); done))⟩
  · have hckb : (n.check == 0) = false := by simpa using hck
    clear hck hbad
    go_wp2_with fail
    refine wp_region_held_drew (S := fun w' => w'.cell? ⟨D1, 0, none⟩ = some (.bool n.leaf) ∧ w'.cell? ⟨D1, 1, none⟩ = some (.slice ka n.keys.length kc) ∧ w'.cell? ⟨D1, 2, none⟩ = some (.slice va n.values.length vc) ∧ w'.cell? ⟨D1, 3, none⟩ = some (.slice ia n.kids.length ic) ∧ w'.cell? ⟨D3, 0, none⟩ = some (.bool n.leaf) ∧ w'.cell? ⟨D3, 1, none⟩ = some (.slice ka3 n.keys.length kc3) ∧ w'.cell? ⟨D3, 2, none⟩ = some (.slice va3 n.values.length vc3) ∧ w'.cell? ⟨D3, 3, none⟩ = some (.slice ia3 n.kids.length ic3)) (by kernel_rfl) (FK.out _ (by ((repeat (first | with_reducible exact Bl.refl _ | with_reducible refine Bl.trans ?_ k14 | with_reducible refine Bl.trans ?_ k13 | with_reducible refine Bl.trans ?_ k12 | with_reducible refine Bl.trans ?_ k11 | with_reducible refine Bl.trans ?_ k10 | with_reducible refine Bl.trans ?_ k9 | with_reducible refine Bl.trans ?_ k8 | with_reducible refine Bl.trans ?_ k7 | with_reducible refine Bl.drew ?_)); done))) (fun hHeld => ?_)
    refine wpAnyH_ready (rs := [0]) (by kernel_rfl) (by simp) ?_
    refine AllReadyH.cons (o := _) rfl (fun K hK => ?_) AllReadyH.nil
    go_simp
    refine (lives_any _).mono ?_
    rintro e w7 ⟨rfl, k7⟩
    try dsimp only
    refine hK.out _ _ (FK.out _ (by ((repeat (first | with_reducible exact Bl.refl _ | with_reducible refine Bl.trans ?_ k14 | with_reducible refine Bl.trans ?_ k13 | with_reducible refine Bl.trans ?_ k12 | with_reducible refine Bl.trans ?_ k11 | with_reducible refine Bl.trans ?_ k10 | with_reducible refine Bl.trans ?_ k9 | with_reducible refine Bl.trans ?_ k8 | with_reducible refine Bl.trans ?_ k7 | with_reducible refine Bl.drew ?_)); done))) (fun hHeld2 => ?_)
    clear hK K hHeld
    have hHeld := hHeld2
    clear hHeld2
    try simp only [Act.put, List.getElem_toArray, List.getElem_cons_succ, List.getElem_cons_zero, List.setIfInBounds_toArray, List.set_cons_zero, List.set_cons_succ]
    refine wpAnyH_take (i := 1) (oi := _) (v := ?_) rfl (by kernel_rfl) (by kernel_rfl) (by kernel_rfl) (fun _ _ _ h => h) (Or.inl ⟨by rfl, ?_⟩) hHeld ?_
    rotate_left
    · intro w' hSw
      try dsimp only at hSw
      go_simp
      try with_reducible rfl
    try simp only [Act.put, List.getElem_toArray, List.getElem_cons_succ, List.getElem_cons_zero, List.setIfInBounds_toArray, List.set_cons_zero, List.set_cons_succ]
    refine wpAnyH_take (i := 2) (oi := _) (v := ?_) rfl (by kernel_rfl) (by kernel_rfl) (by kernel_rfl) (fun _ _ _ h => h) (Or.inl ⟨by rfl, ?_⟩) hHeld ?_
    rotate_left
    · intro w' hSw
      try dsimp only at hSw
      go_simp
      try with_reducible rfl
    try simp only [Act.put, List.getElem_toArray, List.getElem_cons_succ, List.getElem_cons_zero, List.setIfInBounds_toArray, List.set_cons_zero, List.set_cons_succ]
    refine wpAnyH_take (i := 3) (oi := _) (v := ?_) rfl (by kernel_rfl) (by kernel_rfl) (by kernel_rfl) (fun _ _ _ h => h) (Or.inl ⟨by rfl, ?_⟩) hHeld ?_
    rotate_left
    · intro w' hSw
      try dsimp only at hSw
      go_simp
      try with_reducible rfl
    try simp only [Act.put, List.getElem_toArray, List.getElem_cons_succ, List.getElem_cons_zero, List.setIfInBounds_toArray, List.set_cons_zero, List.set_cons_succ]
    refine wpAnyH_take (i := 4) (oi := _) (v := ?_) rfl (by kernel_rfl) (by kernel_rfl) (by kernel_rfl) (fun _ _ _ h => h) (Or.inl ⟨by rfl, ?_⟩) hHeld ?_
    rotate_left
    · intro w' hSw
      try dsimp only at hSw
      go_simp
      try with_reducible rfl
    try simp only [Act.put, List.getElem_toArray, List.getElem_cons_succ, List.getElem_cons_zero, List.setIfInBounds_toArray, List.set_cons_zero, List.set_cons_succ]
    refine wpAnyH_ready (rs := [5]) (by kernel_rfl) (by simp) ?_
    refine AllReadyH.cons (o := _) rfl (fun K hK => ?_) AllReadyH.nil
    go_simp
    refine (samebytes_any _ _ _ _ _ 0 [] (rd_nil _) (rd_nil _)).mono ?_
    rintro e w8 ⟨rfl, k8⟩
    try dsimp only
    refine hK.out _ _ (FK.out _ (by ((repeat (first | with_reducible exact Bl.refl _ | with_reducible refine Bl.trans ?_ k14 | with_reducible refine Bl.trans ?_ k13 | with_reducible refine Bl.trans ?_ k12 | with_reducible refine Bl.trans ?_ k11 | with_reducible refine Bl.trans ?_ k10 | with_reducible refine Bl.trans ?_ k9 | with_reducible refine Bl.trans ?_ k8 | with_reducible refine Bl.trans ?_ k7 | with_reducible refine Bl.drew ?_)); done))) (fun hHeld2 => ?_)
    clear hK K hHeld
    have hHeld := hHeld2
    clear hHeld2
    try simp only [Act.put, List.getElem_toArray, List.getElem_cons_succ, List.getElem_cons_zero, List.setIfInBounds_toArray, List.set_cons_zero, List.set_cons_succ]
    refine wpAnyH_take (i := 6) (oi := _) (v := ?_) rfl (by kernel_rfl) (by kernel_rfl) (by kernel_rfl) (fun _ _ _ h => h) (Or.inl ⟨by rfl, ?_⟩) hHeld ?_
    rotate_left
    · intro w' hSw
      try dsimp only at hSw
      go_simp
      try with_reducible rfl
    try simp only [Act.put, List.getElem_toArray, List.getElem_cons_succ, List.getElem_cons_zero, List.setIfInBounds_toArray, List.set_cons_zero, List.set_cons_succ]
    refine wpAnyH_take (i := 7) (oi := _) (v := ?_) rfl (by kernel_rfl) (by kernel_rfl) (by kernel_rfl) (fun _ _ _ h => h) (Or.inl ⟨by rfl, ?_⟩) hHeld ?_
    rotate_left
    · intro w' hSw
      try dsimp only at hSw
      go_simp
      try with_reducible rfl
    try simp only [Act.put, List.getElem_toArray, List.getElem_cons_succ, List.getElem_cons_zero, List.setIfInBounds_toArray, List.set_cons_zero, List.set_cons_succ]
    refine wpAnyH_take (i := 8) (oi := _) (v := ?_) rfl (by kernel_rfl) (by kernel_rfl) (by kernel_rfl) (fun _ _ _ h => h) (Or.inl ⟨by rfl, ?_⟩) hHeld ?_
    rotate_left
    · intro w' hSw
      try dsimp only at hSw
      go_simp
      try with_reducible rfl
    try simp only [Act.put, List.getElem_toArray, List.getElem_cons_succ, List.getElem_cons_zero, List.setIfInBounds_toArray, List.set_cons_zero, List.set_cons_succ]
    refine wpAnyH_take (i := 9) (oi := _) (v := ?_) rfl (by kernel_rfl) (by kernel_rfl) (by kernel_rfl) (fun _ _ _ h => h) (Or.inl ⟨by rfl, ?_⟩) hHeld ?_
    rotate_left
    · intro w' hSw
      try dsimp only at hSw
      go_simp
      try with_reducible rfl
    try simp only [Act.put, List.getElem_toArray, List.getElem_cons_succ, List.getElem_cons_zero, List.setIfInBounds_toArray, List.set_cons_zero, List.set_cons_succ]
    refine wpAnyH_take (i := 10) (oi := _) (v := ?_) rfl (by kernel_rfl) (by kernel_rfl) (by kernel_rfl) (fun _ _ _ h => h) (Or.inl ⟨by rfl, ?_⟩) hHeld ?_
    rotate_left
    · intro w' hSw
      try dsimp only at hSw
      go_simp
      try with_reducible rfl
    try simp only [Act.put, List.getElem_toArray, List.getElem_cons_succ, List.getElem_cons_zero, List.setIfInBounds_toArray, List.set_cons_zero, List.set_cons_succ]
    refine wpAnyH_take (i := 11) (oi := _) (v := ?_) rfl (by kernel_rfl) (by kernel_rfl) (by kernel_rfl) (fun _ _ _ h => h) (Or.inl ⟨by rfl, ?_⟩) hHeld ?_
    rotate_left
    · intro w' hSw
      try dsimp only at hSw
      go_simp
      try with_reducible rfl
    try simp only [Act.put, List.getElem_toArray, List.getElem_cons_succ, List.getElem_cons_zero, List.setIfInBounds_toArray, List.set_cons_zero, List.set_cons_succ]
    refine wpAnyH_take (i := 12) (oi := _) (v := ?_) rfl (by kernel_rfl) (by kernel_rfl) (by kernel_rfl) (fun _ _ _ h => h) (Or.inl ⟨by rfl, ?_⟩) hHeld ?_
    rotate_left
    · intro w' hSw
      try dsimp only at hSw
      go_simp
      try with_reducible rfl
    try simp only [Act.put, List.getElem_toArray, List.getElem_cons_succ, List.getElem_cons_zero, List.setIfInBounds_toArray, List.set_cons_zero, List.set_cons_succ]
    refine wpAnyH_take (i := 13) (oi := _) (v := ?_) rfl (by kernel_rfl) (by kernel_rfl) (by kernel_rfl) (fun _ _ _ h => h) (Or.inl ⟨by rfl, ?_⟩) hHeld ?_
    rotate_left
    · intro w' hSw
      try dsimp only at hSw
      go_simp
      try with_reducible rfl
    try simp only [Act.put, List.getElem_toArray, List.getElem_cons_succ, List.getElem_cons_zero, List.setIfInBounds_toArray, List.set_cons_zero, List.set_cons_succ]
    refine wpAnyH_take (i := 14) (oi := _) (v := ?_) rfl (by kernel_rfl) (by kernel_rfl) (by kernel_rfl) (fun _ _ _ h => h) (Or.inl ⟨by rfl, ?_⟩) hHeld ?_
    rotate_left
    · intro w' hSw
      try dsimp only at hSw
      go_simp
      try with_reducible rfl
    try simp only [Act.put, List.getElem_toArray, List.getElem_cons_succ, List.getElem_cons_zero, List.setIfInBounds_toArray, List.set_cons_zero, List.set_cons_succ]
    refine wpAnyH_take (i := 16) (oi := _) (v := ?_) rfl (by kernel_rfl) (by kernel_rfl) (by kernel_rfl) (fun _ _ _ h => h) (Or.inl ⟨by rfl, ?_⟩) hHeld ?_
    rotate_left
    · intro w' hSw
      try dsimp only at hSw
      go_simp
      try with_reducible rfl
    try simp only [Act.put, List.getElem_toArray, List.getElem_cons_succ, List.getElem_cons_zero, List.setIfInBounds_toArray, List.set_cons_zero, List.set_cons_succ]
    refine wpAnyH_ready (rs := [15]) (by kernel_rfl) (by simp) ?_
    refine AllReadyH.cons (o := _) rfl (fun K hK => ?_) AllReadyH.nil
    go_simp
    refine (check_any _ _ _ n (FO.out _ (by ((repeat (first | with_reducible exact Bl.refl _ | with_reducible refine Bl.trans ?_ k14 | with_reducible refine Bl.trans ?_ k13 | with_reducible refine Bl.trans ?_ k12 | with_reducible refine Bl.trans ?_ k11 | with_reducible refine Bl.trans ?_ k10 | with_reducible refine Bl.trans ?_ k9 | with_reducible refine Bl.trans ?_ k8 | with_reducible refine Bl.trans ?_ k7 | with_reducible refine Bl.drew ?_)); done))) sm ln).mono ?_
    rintro e w9 ⟨rfl, k9⟩
    try dsimp only
    refine hK.out _ _ (FK.out _ (by ((repeat (first | with_reducible exact Bl.refl _ | with_reducible refine Bl.trans ?_ k14 | with_reducible refine Bl.trans ?_ k13 | with_reducible refine Bl.trans ?_ k12 | with_reducible refine Bl.trans ?_ k11 | with_reducible refine Bl.trans ?_ k10 | with_reducible refine Bl.trans ?_ k9 | with_reducible refine Bl.trans ?_ k8 | with_reducible refine Bl.trans ?_ k7 | with_reducible refine Bl.drew ?_)); done))) (fun hHeld2 => ?_)
    clear hK K hHeld
    have hHeld := hHeld2
    clear hHeld2
    try simp only [Act.put, List.getElem_toArray, List.getElem_cons_succ, List.getElem_cons_zero, List.setIfInBounds_toArray, List.set_cons_zero, List.set_cons_succ]
    refine wpAnyH_ready (rs := [17]) (by kernel_rfl) (by simp) ?_
    refine AllReadyH.cons (o := _) rfl (fun K hK => ?_) AllReadyH.nil
    go_simp
    refine (rcheck_any _ _ _ n (FV.out _ (by ((repeat (first | with_reducible exact Bl.refl _ | with_reducible refine Bl.trans ?_ k14 | with_reducible refine Bl.trans ?_ k13 | with_reducible refine Bl.trans ?_ k12 | with_reducible refine Bl.trans ?_ k11 | with_reducible refine Bl.trans ?_ k10 | with_reducible refine Bl.trans ?_ k9 | with_reducible refine Bl.trans ?_ k8 | with_reducible refine Bl.trans ?_ k7 | with_reducible refine Bl.drew ?_)); done))) sm ln).mono ?_
    rintro e w10 ⟨rfl, k10⟩
    try dsimp only
    refine hK.out _ _ (FK.out _ (by ((repeat (first | with_reducible exact Bl.refl _ | with_reducible refine Bl.trans ?_ k14 | with_reducible refine Bl.trans ?_ k13 | with_reducible refine Bl.trans ?_ k12 | with_reducible refine Bl.trans ?_ k11 | with_reducible refine Bl.trans ?_ k10 | with_reducible refine Bl.trans ?_ k9 | with_reducible refine Bl.trans ?_ k8 | with_reducible refine Bl.trans ?_ k7 | with_reducible refine Bl.drew ?_)); done))) (fun hHeld2 => ?_)
    clear hK K hHeld
    have hHeld := hHeld2
    clear hHeld2
    try simp only [Act.put, List.getElem_toArray, List.getElem_cons_succ, List.getElem_cons_zero, List.setIfInBounds_toArray, List.set_cons_zero, List.set_cons_succ]
    refine wpAnyH_take (i := 18) (oi := _) (v := ?_) rfl (by kernel_rfl) (by kernel_rfl) (by kernel_rfl) (fun _ _ _ h => h) (Or.inl ⟨by rfl, ?_⟩) hHeld ?_
    rotate_left
    · intro w' hSw
      try dsimp only at hSw
      go_simp
      try with_reducible rfl
    try simp only [Act.put, List.getElem_toArray, List.getElem_cons_succ, List.getElem_cons_zero, List.setIfInBounds_toArray, List.set_cons_zero, List.set_cons_succ]
    refine wpAnyH_take (i := 19) (oi := _) (v := ?_) rfl (by kernel_rfl) (by kernel_rfl) (by kernel_rfl) (fun _ _ _ h => h) (Or.inl ⟨by rfl, ?_⟩) hHeld ?_
    rotate_left
    · intro w' hSw
      try dsimp only at hSw
      go_simp
      try with_reducible rfl
    try simp only [Act.put, List.getElem_toArray, List.getElem_cons_succ, List.getElem_cons_zero, List.setIfInBounds_toArray, List.set_cons_zero, List.set_cons_succ]
    refine wpAnyH_take (i := 20) (oi := _) (v := ?_) rfl (by kernel_rfl) (by kernel_rfl) (by kernel_rfl) (fun _ _ _ h => h) (Or.inl ⟨by rfl, ?_⟩) hHeld ?_
    rotate_left
    · intro w' hSw
      try dsimp only at hSw
      go_simp
      try with_reducible rfl
    try simp only [Act.put, List.getElem_toArray, List.getElem_cons_succ, List.getElem_cons_zero, List.setIfInBounds_toArray, List.set_cons_zero, List.set_cons_succ]
    refine wpAnyH_take (i := 21) (oi := _) (v := ?_) rfl (by kernel_rfl) (by kernel_rfl) (by kernel_rfl) (fun _ _ _ h => h) (Or.inl ⟨by rfl, ?_⟩) hHeld ?_
    rotate_left
    · intro w' hSw
      try dsimp only at hSw
      go_simp
      try with_reducible rfl
    try simp only [Act.put, List.getElem_toArray, List.getElem_cons_succ, List.getElem_cons_zero, List.setIfInBounds_toArray, List.set_cons_zero, List.set_cons_succ]
    refine wpAnyH_ready (rs := [22]) (by kernel_rfl) (by simp) ?_
    refine AllReadyH.cons (o := _) rfl (fun K hK => ?_) AllReadyH.nil
    go_simp
    refine (rcheck_any _ _ _ n (FV.out _ (by ((repeat (first | with_reducible exact Bl.refl _ | with_reducible refine Bl.trans ?_ k14 | with_reducible refine Bl.trans ?_ k13 | with_reducible refine Bl.trans ?_ k12 | with_reducible refine Bl.trans ?_ k11 | with_reducible refine Bl.trans ?_ k10 | with_reducible refine Bl.trans ?_ k9 | with_reducible refine Bl.trans ?_ k8 | with_reducible refine Bl.trans ?_ k7 | with_reducible refine Bl.drew ?_)); done))) sm ln).mono ?_
    rintro e w11 ⟨rfl, k11⟩
    try dsimp only
    refine hK.out _ _ (FK.out _ (by ((repeat (first | with_reducible exact Bl.refl _ | with_reducible refine Bl.trans ?_ k14 | with_reducible refine Bl.trans ?_ k13 | with_reducible refine Bl.trans ?_ k12 | with_reducible refine Bl.trans ?_ k11 | with_reducible refine Bl.trans ?_ k10 | with_reducible refine Bl.trans ?_ k9 | with_reducible refine Bl.trans ?_ k8 | with_reducible refine Bl.trans ?_ k7 | with_reducible refine Bl.drew ?_)); done))) (fun hHeld2 => ?_)
    clear hK K hHeld
    have hHeld := hHeld2
    clear hHeld2
    try simp only [Act.put, List.getElem_toArray, List.getElem_cons_succ, List.getElem_cons_zero, List.setIfInBounds_toArray, List.set_cons_zero, List.set_cons_succ]
    refine wpAnyH_take (i := 23) (oi := _) (v := ?_) rfl (by kernel_rfl) (by kernel_rfl) (by kernel_rfl) (fun _ _ _ h => h) (Or.inl ⟨by rfl, ?_⟩) hHeld ?_
    rotate_left
    · intro w' hSw
      try dsimp only at hSw
      go_simp
      try with_reducible rfl
    try simp only [Act.put, List.getElem_toArray, List.getElem_cons_succ, List.getElem_cons_zero, List.setIfInBounds_toArray, List.set_cons_zero, List.set_cons_succ]
    refine wpAnyH_take (i := 24) (oi := _) (v := ?_) rfl (by kernel_rfl) (by kernel_rfl) (by kernel_rfl) (fun _ _ _ h => h) (Or.inl ⟨by rfl, ?_⟩) hHeld ?_
    rotate_left
    · intro w' hSw
      try dsimp only at hSw
      go_simp
      try with_reducible rfl
    try simp only [Act.put, List.getElem_toArray, List.getElem_cons_succ, List.getElem_cons_zero, List.setIfInBounds_toArray, List.set_cons_zero, List.set_cons_succ]
    refine wpAnyH_take (i := 25) (oi := _) (v := undef) rfl (by kernel_rfl) (by kernel_rfl) (by kernel_rfl) (fun _ _ _ h => h) (Or.inr ⟨by rfl, rfl⟩) hHeld ?_
    try simp only [Act.put, List.getElem_toArray, List.getElem_cons_succ, List.getElem_cons_zero, List.setIfInBounds_toArray, List.set_cons_zero, List.set_cons_succ]
    refine wpAnyH_take (i := 27) (oi := _) (v := undef) rfl (by kernel_rfl) (by kernel_rfl) (by kernel_rfl) (fun _ _ _ h => h) (Or.inr ⟨by rfl, rfl⟩) hHeld ?_
    try simp only [Act.put, List.getElem_toArray, List.getElem_cons_succ, List.getElem_cons_zero, List.setIfInBounds_toArray, List.set_cons_zero, List.set_cons_succ]
    refine wpAnyH_ready (rs := [26]) (by kernel_rfl) (by simp) ?_
    refine AllReadyH.cons (o := _) rfl (fun K hK => ?_) AllReadyH.nil
    go_simp
    refine hK.out _ _ hHeld (fun _ => ?_)
    clear hK K
    try simp only [Act.put, List.getElem_toArray, List.getElem_cons_succ, List.getElem_cons_zero, List.setIfInBounds_toArray, List.set_cons_zero, List.set_cons_succ]
    refine wpAnyH_ready (rs := [28]) (by kernel_rfl) (by simp) ?_
    refine AllReadyH.cons (o := _) rfl (fun K hK => ?_) AllReadyH.nil
    go_simp
    refine hK.out _ _ hHeld (fun _ => ?_)
    clear hK K
    try simp only [Act.put, List.getElem_toArray, List.getElem_cons_succ, List.getElem_cons_zero, List.setIfInBounds_toArray, List.set_cons_zero, List.set_cons_succ]
    refine wpAnyH_take (i := 29) (oi := _) (v := undef) rfl (by kernel_rfl) (by kernel_rfl) (by kernel_rfl) (fun _ _ _ h => h) (Or.inr ⟨by rfl, rfl⟩) hHeld ?_
    try simp only [Act.put, List.getElem_toArray, List.getElem_cons_succ, List.getElem_cons_zero, List.setIfInBounds_toArray, List.set_cons_zero, List.set_cons_succ]
    refine wpAnyH_take (i := 30) (oi := _) (v := ?_) rfl (by kernel_rfl) (by kernel_rfl) (by kernel_rfl) (fun _ _ _ h => h) (Or.inl ⟨by rfl, ?_⟩) hHeld ?_
    rotate_left
    · intro w' hSw
      try dsimp only at hSw
      go_simp
      try with_reducible rfl
    try simp only [Act.put, List.getElem_toArray, List.getElem_cons_succ, List.getElem_cons_zero, List.setIfInBounds_toArray, List.set_cons_zero, List.set_cons_succ]
    refine wpAnyH_take (i := 31) (oi := _) (v := ?_) rfl (by kernel_rfl) (by kernel_rfl) (by kernel_rfl) (fun _ _ _ h => h) (Or.inl ⟨by rfl, ?_⟩) hHeld ?_
    rotate_left
    · intro w' hSw
      try dsimp only at hSw
      go_simp
      try with_reducible rfl
    try simp only [Act.put, List.getElem_toArray, List.getElem_cons_succ, List.getElem_cons_zero, List.setIfInBounds_toArray, List.set_cons_zero, List.set_cons_succ]
    refine wpAnyH_take (i := 32) (oi := _) (v := ?_) rfl (by kernel_rfl) (by kernel_rfl) (by kernel_rfl) (fun _ _ _ h => h) (Or.inl ⟨by rfl, ?_⟩) hHeld ?_
    rotate_left
    · intro w' hSw
      try dsimp only at hSw
      go_simp
      try with_reducible rfl
    try simp only [Act.put, List.getElem_toArray, List.getElem_cons_succ, List.getElem_cons_zero, List.setIfInBounds_toArray, List.set_cons_zero, List.set_cons_succ]
    refine wpAnyH_take (i := 33) (oi := _) (v := ?_) rfl (by kernel_rfl) (by kernel_rfl) (by kernel_rfl) (fun _ _ _ h => h) (Or.inl ⟨by rfl, ?_⟩) hHeld ?_
    rotate_left
    · intro w' hSw
      try dsimp only at hSw
      go_simp
      try with_reducible rfl
    try simp only [Act.put, List.getElem_toArray, List.getElem_cons_succ, List.getElem_cons_zero, List.setIfInBounds_toArray, List.set_cons_zero, List.set_cons_succ]
    refine wpAnyH_take (i := 34) (oi := _) (v := ?_) rfl (by kernel_rfl) (by kernel_rfl) (by kernel_rfl) (fun _ _ _ h => h) (Or.inl ⟨by rfl, ?_⟩) hHeld ?_
    rotate_left
    · intro w' hSw
      try dsimp only at hSw
      go_simp
      try with_reducible rfl
    try simp only [Act.put, List.getElem_toArray, List.getElem_cons_succ, List.getElem_cons_zero, List.setIfInBounds_toArray, List.set_cons_zero, List.set_cons_succ]
    refine wpAnyH_ready (rs := [35]) (by kernel_rfl) (by simp) ?_
    refine AllReadyH.cons (o := _) rfl (fun K hK => ?_) AllReadyH.nil
    go_simp
    refine (same_nodes _ _ _ _ _ n (FO.out _ (by ((repeat (first | with_reducible exact Bl.refl _ | with_reducible refine Bl.trans ?_ k14 | with_reducible refine Bl.trans ?_ k13 | with_reducible refine Bl.trans ?_ k12 | with_reducible refine Bl.trans ?_ k11 | with_reducible refine Bl.trans ?_ k10 | with_reducible refine Bl.trans ?_ k9 | with_reducible refine Bl.trans ?_ k8 | with_reducible refine Bl.trans ?_ k7 | with_reducible refine Bl.drew ?_)); done))) (FV.out _ (by ((repeat (first | with_reducible exact Bl.refl _ | with_reducible refine Bl.trans ?_ k14 | with_reducible refine Bl.trans ?_ k13 | with_reducible refine Bl.trans ?_ k12 | with_reducible refine Bl.trans ?_ k11 | with_reducible refine Bl.trans ?_ k10 | with_reducible refine Bl.trans ?_ k9 | with_reducible refine Bl.trans ?_ k8 | with_reducible refine Bl.trans ?_ k7 | with_reducible refine Bl.drew ?_)); done)))).mono ?_
    rintro e w14 ⟨rfl, k14⟩
    try dsimp only
    refine hK.out _ _ (FK.out _ (by ((repeat (first | with_reducible exact Bl.refl _ | with_reducible refine Bl.trans ?_ k14 | with_reducible refine Bl.trans ?_ k13 | with_reducible refine Bl.trans ?_ k12 | with_reducible refine Bl.trans ?_ k11 | with_reducible refine Bl.trans ?_ k10 | with_reducible refine Bl.trans ?_ k9 | with_reducible refine Bl.trans ?_ k8 | with_reducible refine Bl.trans ?_ k7 | with_reducible refine Bl.drew ?_)); done))) (fun hHeld2 => ?_)
    clear hK K hHeld
    have hHeld := hHeld2
    clear hHeld2
    try simp only [Act.put, List.getElem_toArray, List.getElem_cons_succ, List.getElem_cons_zero, List.setIfInBounds_toArray, List.set_cons_zero, List.set_cons_succ]
    refine wpAnyH_take (i := 36) (oi := _) (v := ?_) rfl (by kernel_rfl) (by kernel_rfl) (by kernel_rfl) (fun _ _ _ h => h) (Or.inl ⟨by rfl, ?_⟩) hHeld ?_
    rotate_left
    · intro w' hSw
      try dsimp only at hSw
      go_simp
      try with_reducible rfl
    try simp only [Act.put, List.getElem_toArray, List.getElem_cons_succ, List.getElem_cons_zero, List.setIfInBounds_toArray, List.set_cons_zero, List.set_cons_succ]
    refine wpAnyH_take (i := 37) (oi := _) (v := ?_) rfl (by kernel_rfl) (by kernel_rfl) (by kernel_rfl) (fun _ _ _ h => h) (Or.inl ⟨by rfl, ?_⟩) hHeld ?_
    rotate_left
    · intro w' hSw
      try dsimp only at hSw
      go_simp
      try with_reducible rfl
    try simp only [Act.put, List.getElem_toArray, List.getElem_cons_succ, List.getElem_cons_zero, List.setIfInBounds_toArray, List.set_cons_zero, List.set_cons_succ]
    refine wpAnyH_done (by kernel_rfl) ?_ _
    all_goals
      go_wp2_with fail
      go_ret
      exact ⟨rfl, K6.trans (by ((repeat (first | with_reducible exact Bl.refl _ | with_reducible refine Bl.trans ?_ k14 | with_reducible refine Bl.trans ?_ k13 | with_reducible refine Bl.trans ?_ k12 | with_reducible refine Bl.trans ?_ k11 | with_reducible refine Bl.trans ?_ k10 | with_reducible refine Bl.trans ?_ k9 | with_reducible refine Bl.trans ?_ k8 | with_reducible refine Bl.trans ?_ k7 | with_reducible refine Bl.drew ?_)); done))⟩
set_option maxRecDepth 100000 in
set_option maxHeartbeats 4000000 in
theorem encodes_ok (w : World) (own : Nat → Prop) (v : Value) (n : ND) (size : Nat) (hv : NodeAt w own v n) (sm : n.Small) (ln : n.Lens) (hck : n.check = 0) (hs : sizeOk size = true) (hp : n.psize ≤ size) (hdec : ∀ (w : World) (own : Nat → Prop) (x : Value), RdAt w own 1 x size (bcells (n.out size)) → Calls Try.prog 21 #[.int .i64 size, x] w fun e w' => (∃ u, e = .returned (.tuple #[u, .int .i64 0]) ∧ NodeAt w' (fun k => w.heap.size ≤ k) u n) ∧ Bl w w') :
    Calls Try.prog 4 #[.int .i64 size, v] w fun e w' => e = .returned (.bool true) ∧ Bl w w' := by
  have hv' := hv
  obtain ⟨ka, kc, va, vc, ia, ic, rfl, h⟩ := hv
  unfold nodeV
  unfold nodeV at hv'
  have kB : Bl w (w.alloc (.cells #[.bool n.leaf, .slice ka n.keys.length kc, .slice va n.values.length vc, .slice ia n.kids.length ic] 25)) := (Bl.refl w).alloc _
  have bB1 : (w.alloc (.cells #[.bool n.leaf, .slice ka n.keys.length kc, .slice va n.values.length vc, .slice ia n.kids.length ic] 25)).heap[w.heap.size]? = some (.cells #[.bool n.leaf, .slice ka n.keys.length kc, .slice va n.values.length vc, .slice ia n.kids.length ic] 25 (0, 0)) := block_new _ _
  have lB := lt_of_block bB1
  obtain ⟨cB0, cB1, cB2, cB3, -, -, -, -⟩ := cells4 bB1
  go_enter Try.func4, Try.ntmps4
  go_wp2_with fail
  generalize hW1 : w.alloc (.cells #[.bool n.leaf, .slice ka n.keys.length kc, .slice va n.values.length vc, .slice ia n.kids.length ic] 25) = W1 at *
  generalize hD1 : w.heap.size = D1 at *
  clear hW1
  refine (rcopy_any W1 _ _ n (hv'.bl kB) sm).mono ?_
  rintro e w3 ⟨⟨v3, rfl, ka3, kc3, va3, vc3, ia3, ic3, rfl, q3⟩, k3⟩
  have K3 := kB.trans k3
  unfold nodeV
  clear cB0 cB1 cB2 cB3
  have bB3 := below_keeps k3 bB1 (lt_of_block bB1)
  have lB3 := lt_of_block bB3
  have A3 : Bl w3 (w3.alloc (.cells #[.bool n.leaf, .slice ka3 n.keys.length kc3, .slice va3 n.values.length vc3, .slice ia3 n.kids.length ic3] 25)) := (Bl.refl _).alloc _
  have K4 := K3.trans A3
  have bO4 : (w3.alloc (.cells #[.bool n.leaf, .slice ka3 n.keys.length kc3, .slice va3 n.values.length vc3, .slice ia3 n.kids.length ic3] 25)).heap[w3.heap.size]? = some (.cells #[.bool n.leaf, .slice ka3 n.keys.length kc3, .slice va3 n.values.length vc3, .slice ia3 n.kids.length ic3] 25 (0, 0)) := block_new _ _
  have bB4 := below_keeps A3 bB3 (lt_of_block bB3)
  have hO := q3.below A3
  have s3 := K3.size
  obtain ⟨cB0, cB1, cB2, cB3, -, -, -, -⟩ := cells4 bB4
  obtain ⟨cO0, cO1, cO2, cO3, -, -, -, -⟩ := cells4 bO4
  go_wp2_with fail
  generalize hW4 : w3.alloc (.cells #[.bool n.leaf, .slice ka3 n.keys.length kc3, .slice va3 n.values.length vc3, .slice ia3 n.kids.length ic3] 25) = W4 at *
  generalize hD3 : w3.heap.size = D3 at *
  clear hW4 A3 K3 k3 bB3 lB3 q3 bB1 lB kB
  refine (encode_ok W4 _ _ n size ⟨_, _, _, _, _, _, rfl, hO⟩ sm ln hck hs hp).mono ?_
  rintro e w5 ⟨⟨x, rfl, hx5⟩, k5⟩
  obtain ⟨xa, xc, rfl, -⟩ := hx5.shape
  clear cB0 cB1 cB2 cB3 cO0 cO1 cO2 cO3
  have bB5 := below_keeps k5 bB4 (lt_of_block bB4)
  have bO5 := below_keeps k5 bO4 (lt_of_block bO4)
  obtain ⟨cB0, cB1, cB2, cB3, -, -, -, -⟩ := cells4 bB5
  obtain ⟨cO0, cO1, cO2, cO3, -, -, -, -⟩ := cells4 bO5
  go_wp2_with fail
  refine (rencode_ok w5 _ _ n size (hv'.bl (K4.trans k5)) sm ln hck hs hp).mono ?_
  rintro e w6 ⟨⟨y, rfl, hy6⟩, k6⟩
  obtain ⟨ya, yc, rfl, -⟩ := hy6.shape
  have hx6 := hx5.below k6
  clear cB0 cB1 cB2 cB3 cO0 cO1 cO2 cO3
  have bB6 := below_keeps k6 bB5 (lt_of_block bB5)
  have bO6 := below_keeps k6 bO5 (lt_of_block bO5)
  have K6 := (K4.trans k5).trans k6
  have hO6 := hO.below (k5.trans k6)
  obtain ⟨cB0, cB1, cB2, cB3, -, -, -, -⟩ := cells4 bB6
  obtain ⟨cO0, cO1, cO2, cO3, -, -, -, -⟩ := cells4 bO6
  clear bB4 bO4 bB5 bO5 k5 k6 K4 hO
  have FK : Hid (∀ w', Bl w6 w' → w'.cell? ⟨D1, 0, none⟩ = some (.bool n.leaf) ∧ w'.cell? ⟨D1, 1, none⟩ = some (.slice ka n.keys.length kc) ∧ w'.cell? ⟨D1, 2, none⟩ = some (.slice va n.values.length vc) ∧ w'.cell? ⟨D1, 3, none⟩ = some (.slice ia n.kids.length ic) ∧ w'.cell? ⟨D3, 0, none⟩ = some (.bool n.leaf) ∧ w'.cell? ⟨D3, 1, none⟩ = some (.slice ka3 n.keys.length kc3) ∧ w'.cell? ⟨D3, 2, none⟩ = some (.slice va3 n.values.length vc3) ∧ w'.cell? ⟨D3, 3, none⟩ = some (.slice ia3 n.kids.length ic3)) := fun w' kk => by
    have q1 := cells4 (below_keeps kk bB6 (lt_of_block bB6))
    have q2 := cells4 (below_keeps kk bO6 (lt_of_block bO6))
    exact ⟨q1.1, q1.2.1, q1.2.2.1, q1.2.2.2.1, q2.1, q2.2.1, q2.2.2.1, q2.2.2.2.1⟩
  have FV : Hid (∀ w', Bl w6 w' → NodeAt w' own (.agg #[.bool n.leaf, .slice ka n.keys.length kc, .slice va n.values.length vc, .slice ia n.kids.length ic]) n) := fun w' kk => hv'.bl (K6.trans kk)
  have FO : Hid (∀ w', Bl w6 w' → NodeAt w' (fun k => W1.heap.size ≤ k) (.agg #[.bool n.leaf, .slice ka3 n.keys.length kc3, .slice va3 n.values.length vc3, .slice ia3 n.kids.length ic3]) n) := fun w' kk => NodeAt.bl ⟨_, _, _, _, _, _, rfl, hO6⟩ kk
  have FX : Hid (∀ w', Bl w6 w' → RdAt w' (fun k => W4.heap.size ≤ k) 1 (.slice xa size xc) size (bcells (n.out size))) := fun w' kk => hx6.below kk
  have FY : Hid (∀ w', Bl w6 w' → RdAt w' (fun k => w5.heap.size ≤ k) 1 (.slice ya size yc) size (bcells (n.out size))) := fun w' kk => hy6.below kk
  clear hx5 hx6 hy6
  have hcc : (n.check != n.check) = false := by simp
  clear hv' hO6 h bB6 bO6
  obtain ⟨hl, hsh, -⟩ := ND.check_zero hck
  have hpr : (n.psize != n.rsize) = false := by rw [psize_rsize (ND.shape_form hsh)]; simp
  have HLN := Lib.hid hl
  have hckb : (n.check == 0) = true := by simpa using hck
  clear hck hl hsh hp hs
  go_wp2_with fail
  first | go_region_held3 (fun w' => w'.cell? ⟨D1, 0, none⟩ = some (.bool n.leaf) ∧ w'.cell? ⟨D1, 1, none⟩ = some (.slice ka n.keys.length kc) ∧ w'.cell? ⟨D1, 2, none⟩ = some (.slice va n.values.length vc) ∧ w'.cell? ⟨D1, 3, none⟩ = some (.slice ia n.kids.length ic) ∧ w'.cell? ⟨D3, 0, none⟩ = some (.bool n.leaf) ∧ w'.cell? ⟨D3, 1, none⟩ = some (.slice ka3 n.keys.length kc3) ∧ w'.cell? ⟨D3, 2, none⟩ = some (.slice va3 n.values.length vc3) ∧ w'.cell? ⟨D3, 3, none⟩ = some (.slice ia3 n.kids.length ic3)) (exact FK.out _ (by ((repeat (first | with_reducible exact Bl.refl _ | with_reducible refine Bl.trans ?_ k14 | with_reducible refine Bl.trans ?_ k13 | with_reducible refine Bl.trans ?_ k12 | with_reducible refine Bl.trans ?_ k11 | with_reducible refine Bl.trans ?_ k10 | with_reducible refine Bl.trans ?_ k9 | with_reducible refine Bl.trans ?_ k8 | with_reducible refine Bl.trans ?_ k7 | with_reducible refine Bl.drew ?_)); done))) ((first | (go_at_call 8; refine (lives_any _).mono ?_; rintro e w7 ⟨rfl, k7⟩) | (go_at_call 18; refine (samebytes_any _ _ _ _ _ size (n.out size) (FX.out _ (by ((repeat (first | with_reducible exact Bl.refl _ | with_reducible refine Bl.trans ?_ k14 | with_reducible refine Bl.trans ?_ k13 | with_reducible refine Bl.trans ?_ k12 | with_reducible refine Bl.trans ?_ k11 | with_reducible refine Bl.trans ?_ k10 | with_reducible refine Bl.trans ?_ k9 | with_reducible refine Bl.trans ?_ k8 | with_reducible refine Bl.trans ?_ k7 | with_reducible refine Bl.drew ?_)); done))) (FY.out _ (by ((repeat (first | with_reducible exact Bl.refl _ | with_reducible refine Bl.trans ?_ k14 | with_reducible refine Bl.trans ?_ k13 | with_reducible refine Bl.trans ?_ k12 | with_reducible refine Bl.trans ?_ k11 | with_reducible refine Bl.trans ?_ k10 | with_reducible refine Bl.trans ?_ k9 | with_reducible refine Bl.trans ?_ k8 | with_reducible refine Bl.trans ?_ k7 | with_reducible refine Bl.drew ?_)); done)))).mono ?_; rintro e w8 ⟨rfl, k8⟩) | (go_at_call 19; refine (check_any _ _ _ n (FO.out _ (by ((repeat (first | with_reducible exact Bl.refl _ | with_reducible refine Bl.trans ?_ k14 | with_reducible refine Bl.trans ?_ k13 | with_reducible refine Bl.trans ?_ k12 | with_reducible refine Bl.trans ?_ k11 | with_reducible refine Bl.trans ?_ k10 | with_reducible refine Bl.trans ?_ k9 | with_reducible refine Bl.trans ?_ k8 | with_reducible refine Bl.trans ?_ k7 | with_reducible refine Bl.drew ?_)); done))) sm ln).mono ?_; rintro e w9 ⟨rfl, k9⟩) | (go_at_call 20; have := k10; refine (rcheck_any _ _ _ n (FV.out _ (by ((repeat (first | with_reducible exact Bl.refl _ | with_reducible refine Bl.trans ?_ k14 | with_reducible refine Bl.trans ?_ k13 | with_reducible refine Bl.trans ?_ k12 | with_reducible refine Bl.trans ?_ k11 | with_reducible refine Bl.trans ?_ k10 | with_reducible refine Bl.trans ?_ k9 | with_reducible refine Bl.trans ?_ k8 | with_reducible refine Bl.trans ?_ k7 | with_reducible refine Bl.drew ?_)); done))) sm ln).mono ?_; rintro e w11 ⟨rfl, k11⟩) | (go_at_call 20; refine (rcheck_any _ _ _ n (FV.out _ (by ((repeat (first | with_reducible exact Bl.refl _ | with_reducible refine Bl.trans ?_ k14 | with_reducible refine Bl.trans ?_ k13 | with_reducible refine Bl.trans ?_ k12 | with_reducible refine Bl.trans ?_ k11 | with_reducible refine Bl.trans ?_ k10 | with_reducible refine Bl.trans ?_ k9 | with_reducible refine Bl.trans ?_ k8 | with_reducible refine Bl.trans ?_ k7 | with_reducible refine Bl.drew ?_)); done))) sm ln).mono ?_; rintro e w10 ⟨rfl, k10⟩) | (go_at_call 15; refine (psize_any _ _ _ n (FO.out _ (by ((repeat (first | with_reducible exact Bl.refl _ | with_reducible refine Bl.trans ?_ k14 | with_reducible refine Bl.trans ?_ k13 | with_reducible refine Bl.trans ?_ k12 | with_reducible refine Bl.trans ?_ k11 | with_reducible refine Bl.trans ?_ k10 | with_reducible refine Bl.trans ?_ k9 | with_reducible refine Bl.trans ?_ k8 | with_reducible refine Bl.trans ?_ k7 | with_reducible refine Bl.drew ?_)); done))) sm HLN.out).mono ?_; rintro e w12 ⟨rfl, k12⟩) | (go_at_call 14; refine (rsize_any _ _ _ n (FV.out _ (by ((repeat (first | with_reducible exact Bl.refl _ | with_reducible refine Bl.trans ?_ k14 | with_reducible refine Bl.trans ?_ k13 | with_reducible refine Bl.trans ?_ k12 | with_reducible refine Bl.trans ?_ k11 | with_reducible refine Bl.trans ?_ k10 | with_reducible refine Bl.trans ?_ k9 | with_reducible refine Bl.trans ?_ k8 | with_reducible refine Bl.trans ?_ k7 | with_reducible refine Bl.drew ?_)); done))) sm HLN.out).mono ?_; rintro e w13 ⟨rfl, k13⟩) | (go_at_call 12; refine (same_nodes _ _ _ _ _ n (FO.out _ (by ((repeat (first | with_reducible exact Bl.refl _ | with_reducible refine Bl.trans ?_ k14 | with_reducible refine Bl.trans ?_ k13 | with_reducible refine Bl.trans ?_ k12 | with_reducible refine Bl.trans ?_ k11 | with_reducible refine Bl.trans ?_ k10 | with_reducible refine Bl.trans ?_ k9 | with_reducible refine Bl.trans ?_ k8 | with_reducible refine Bl.trans ?_ k7 | with_reducible refine Bl.drew ?_)); done))) (FV.out _ (by ((repeat (first | with_reducible exact Bl.refl _ | with_reducible refine Bl.trans ?_ k14 | with_reducible refine Bl.trans ?_ k13 | with_reducible refine Bl.trans ?_ k12 | with_reducible refine Bl.trans ?_ k11 | with_reducible refine Bl.trans ?_ k10 | with_reducible refine Bl.trans ?_ k9 | with_reducible refine Bl.trans ?_ k8 | with_reducible refine Bl.trans ?_ k7 | with_reducible refine Bl.drew ?_)); done)))).mono ?_; rintro e w14 ⟨rfl, k14⟩))) | fail
  have K14 : Bl w6 w14 := (by ((repeat (first | with_reducible exact Bl.refl _ | with_reducible refine Bl.trans ?_ k14 | with_reducible refine Bl.trans ?_ k13 | with_reducible refine Bl.trans ?_ k12 | with_reducible refine Bl.trans ?_ k11 | with_reducible refine Bl.trans ?_ k10 | with_reducible refine Bl.trans ?_ k9 | with_reducible refine Bl.trans ?_ k8 | with_reducible refine Bl.trans ?_ k7 | with_reducible refine Bl.drew ?_)); done))
  go_wp2_with fail
  refine (hdec w14 _ _ (FX.out _ K14)).mono ?_
  rintro e w15 ⟨⟨u, rfl, hu⟩, k15⟩
  obtain ⟨ka9, kc9, va9, vc9, ia9, ic9, rfl, hu⟩ := hu
  unfold nodeV
  have A15 : Bl w15 (w15.alloc (.cells #[.bool n.leaf, .slice ka9 n.keys.length kc9, .slice va9 n.values.length vc9, .slice ia9 n.kids.length ic9] 25)) := (Bl.refl _).alloc _
  have K15 : Bl w6 (w15.alloc (.cells #[.bool n.leaf, .slice ka9 n.keys.length kc9, .slice va9 n.values.length vc9, .slice ia9 n.kids.length ic9] 25)) := (K14.trans k15).trans A15
  obtain ⟨c0, c1, c2, c3, -⟩ := FK.out _ K15
  have huB := hu.below A15
  have hvB := FV.out _ K15
  go_wp2_with fail
  refine (same_nodes _ _ _ _ _ n ⟨_, _, _, _, _, _, rfl, huB⟩ hvB).mono ?_
  rintro e w16 ⟨rfl, k16⟩
  go_wp2_with fail
  go_ret
  exact ⟨rfl, K6.trans (K15.trans k16)⟩
end Go.Proofs.Ytjdkalimaldofaa
