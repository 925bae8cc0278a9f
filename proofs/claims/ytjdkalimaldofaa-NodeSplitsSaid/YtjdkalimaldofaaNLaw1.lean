/-
  NodeSplits: the walk.
-/
import Derived.Test.YtjdkalimaldofaaNHalves2
import Derived.Test.YtjdkalimaldofaaNLives
import Derived.Test.YtjdkalimaldofaaNRSplit
namespace Go.Proofs.Ytjdkalimaldofaa
open Go.RowKit
set_option linter.unusedSimpArgs false
set_option linter.unusedVariables false
theorem ND.SplitIs.cut {n a b : ND} {k : ByteArray} (h : n.SplitIs a k b 0) : ∃ (i : Nat) (c : n.Cut i), a = n.left i ∧ k = n.keys[i]'c.lt ∧ b = n.right i := by
  generalize he : (0 : Int) = e at h
  cases h with
  | bad hc => exact absurd he.symm hc
  | few hc hl => exact absurd he (by decide)
  | ok hc i hi hlt => exact ⟨i, ND.Cut.of hc hi hlt, rfl, rfl, rfl⟩
set_option maxRecDepth 100000 in
set_option maxHeartbeats 4000000 in
theorem splits_any (w : World) (own : Nat → Prop) (v : Value) (n : ND) (hv : NodeAt w own v n) (sm : n.Small) (ln : n.Lens) :
    Calls Try.prog 3 #[v] w fun e w' => e = .returned (.bool true) ∧ Bl w w' := by
  have hv' := hv
  obtain ⟨ka, kc, va, vc, ia, ic, rfl, h⟩ := hv
  unfold nodeV
  unfold nodeV at hv'
  have kB : Bl w (w.alloc (.cells #[.bool n.leaf, .slice ka n.keys.length kc, .slice va n.values.length vc, .slice ia n.kids.length ic] 25)) := (Bl.refl w).alloc _
  have bB1 : (w.alloc (.cells #[.bool n.leaf, .slice ka n.keys.length kc, .slice va n.values.length vc, .slice ia n.kids.length ic] 25)).heap[w.heap.size]? = some (.cells #[.bool n.leaf, .slice ka n.keys.length kc, .slice va n.values.length vc, .slice ia n.kids.length ic] 25 (0, 0)) := block_new _ _
  go_enter Try.func3, Try.ntmps3
  go_wp2_with fail
  refine (lives_any _).mono ?_
  rintro e w2 ⟨rfl, k2⟩
  have K2 := kB.trans k2
  have bB2 := below_keeps k2 bB1 (lt_of_block bB1)
  obtain ⟨cB0, cB1, cB2, cB3, -, -, -, -⟩ := cells4 bB2
  go_wp2_with fail
  refine (rcopy_any w2 _ _ n (hv'.bl K2) sm).mono ?_
  rintro e w3 ⟨⟨v3, rfl, ka3, kc3, va3, vc3, ia3, ic3, rfl, q3⟩, k3⟩
  have K3 := K2.trans k3
  unfold nodeV
  clear cB0 cB1 cB2 cB3
  have bB3 := below_keeps k3 bB2 (lt_of_block bB2)
  have lB3 := lt_of_block bB3
  have A3 : Bl w3 (w3.alloc (.cells #[.bool n.leaf, .slice ka3 n.keys.length kc3, .slice va3 n.values.length vc3, .slice ia3 n.kids.length ic3] 25)) := (Bl.refl _).alloc _
  have K3a := K3.trans A3
  have bO4 : (w3.alloc (.cells #[.bool n.leaf, .slice ka3 n.keys.length kc3, .slice va3 n.values.length vc3, .slice ia3 n.kids.length ic3] 25)).heap[w3.heap.size]? = some (.cells #[.bool n.leaf, .slice ka3 n.keys.length kc3, .slice va3 n.values.length vc3, .slice ia3 n.kids.length ic3] 25 (0, 0)) := block_new _ _
  have bB4 := below_keeps A3 bB3 (lt_of_block bB3)
  have hO := q3.below A3
  have s3 := K3.size
  go_wp2_with fail
  generalize hW4 : w3.alloc (.cells #[.bool n.leaf, .slice ka3 n.keys.length kc3, .slice va3 n.values.length vc3, .slice ia3 n.kids.length ic3] 25) = W4 at *
  generalize hD3 : w3.heap.size = D3 at *
  clear hW4 hD3 A3 K3 k3 bB3 lB3
  refine (split_any W4 _ _ n ⟨_, _, _, _, _, _, rfl, hO⟩ sm ln).mono ?_
  rintro e w5 ⟨⟨v5, key, u5, er, nl, nr, rfl, hl5, hr5, hsp⟩, k5⟩
  obtain ⟨ka5, kc5, va5, vc5, ia5, ic5, rfl, ql⟩ := hl5
  obtain ⟨ka6, kc6, va6, vc6, ia6, ic6, rfl, qr⟩ := hr5
  unfold nodeV
  have bB5 := below_keeps k5 bB4 (lt_of_block bB4)
  have bO5 := below_keeps k5 bO4 (lt_of_block bO4)
  have lB5 := lt_of_block bB5
  have lO5 := lt_of_block bO5
  have A5 : Bl w5 ((w5.alloc (.cells #[.bool nl.leaf, .slice ka5 nl.keys.length kc5, .slice va5 nl.values.length vc5, .slice ia5 nl.kids.length ic5] 25)).alloc (.cells #[.bool nr.leaf, .slice ka6 nr.keys.length kc6, .slice va6 nr.values.length vc6, .slice ia6 nr.kids.length ic6] 25)) := ((Bl.refl _).alloc _).alloc _
  have bL6 : ((w5.alloc (.cells #[.bool nl.leaf, .slice ka5 nl.keys.length kc5, .slice va5 nl.values.length vc5, .slice ia5 nl.kids.length ic5] 25)).alloc (.cells #[.bool nr.leaf, .slice ka6 nr.keys.length kc6, .slice va6 nr.values.length vc6, .slice ia6 nr.kids.length ic6] 25)).heap[w5.heap.size]? = some (.cells #[.bool nl.leaf, .slice ka5 nl.keys.length kc5, .slice va5 nl.values.length vc5, .slice ia5 nl.kids.length ic5] 25 (0, 0)) := block_old _ (block_new _ _)
  have bR6 : ((w5.alloc (.cells #[.bool nl.leaf, .slice ka5 nl.keys.length kc5, .slice va5 nl.values.length vc5, .slice ia5 nl.kids.length ic5] 25)).alloc (.cells #[.bool nr.leaf, .slice ka6 nr.keys.length kc6, .slice va6 nr.values.length vc6, .slice ia6 nr.kids.length ic6] 25)).heap[w5.heap.size + 1]? = some (.cells #[.bool nr.leaf, .slice ka6 nr.keys.length kc6, .slice va6 nr.values.length vc6, .slice ia6 nr.kids.length ic6] 25 (0, 0)) := block_new' _ (by simp)
  have bB6 := below_keeps A5 bB5 (lt_of_block bB5)
  have bO6 := below_keeps A5 bO5 (lt_of_block bO5)
  have K6 := (K3a.trans k5).trans A5
  obtain ⟨cB0, cB1, cB2, cB3, -, -, -, -⟩ := cells4 bB6
  go_wp2_with fail
  generalize hW6 : (w5.alloc (.cells #[.bool nl.leaf, .slice ka5 nl.keys.length kc5, .slice va5 nl.values.length vc5, .slice ia5 nl.kids.length ic5] 25)).alloc (.cells #[.bool nr.leaf, .slice ka6 nr.keys.length kc6, .slice va6 nr.values.length vc6, .slice ia6 nr.kids.length ic6] 25) = W6 at *
  generalize hD5 : w5.heap.size = D5 at *
  have ql6 := ql.below A5
  have qr6 := qr.below A5
  have hO6 := hO.below (k5.trans A5)
  clear hW6 hD5 A5 k5 bB5 bO5 lB5 lO5 ql qr hO bB4 bO4 K3a
  refine (rsplit_any W6 _ _ n (hv'.bl K6) sm ln).mono ?_
  rintro e w7 ⟨⟨v7, key7, u7, er7, nl7, nr7, rfl, hl7, hr7, hsp7⟩, k7⟩
  obtain ⟨rfl, rfl, rfl, rfl⟩ := hsp.uniq hsp7
  clear hsp7
  obtain ⟨ka7, kc7, va7, vc7, ia7, ic7, rfl, pl⟩ := hl7
  obtain ⟨ka8, kc8, va8, vc8, ia8, ic8, rfl, pr⟩ := hr7
  unfold nodeV
  clear cB0 cB1 cB2 cB3
  have bB7 := below_keeps k7 bB6 (lt_of_block bB6)
  have bO7 := below_keeps k7 bO6 (lt_of_block bO6)
  have bL7 := below_keeps k7 bL6 (lt_of_block bL6)
  have bR7 := below_keeps k7 bR6 (lt_of_block bR6)
  have lB7 := lt_of_block bB7
  have lO7 := lt_of_block bO7
  have lL7 := lt_of_block bL7
  have lR7 := lt_of_block bR7
  have A7 : Bl w7 ((w7.alloc (.cells #[.bool nl7.leaf, .slice ka7 nl7.keys.length kc7, .slice va7 nl7.values.length vc7, .slice ia7 nl7.kids.length ic7] 25)).alloc (.cells #[.bool nr7.leaf, .slice ka8 nr7.keys.length kc8, .slice va8 nr7.values.length vc8, .slice ia8 nr7.kids.length ic8] 25)) := ((Bl.refl _).alloc _).alloc _
  have bX8 : ((w7.alloc (.cells #[.bool nl7.leaf, .slice ka7 nl7.keys.length kc7, .slice va7 nl7.values.length vc7, .slice ia7 nl7.kids.length ic7] 25)).alloc (.cells #[.bool nr7.leaf, .slice ka8 nr7.keys.length kc8, .slice va8 nr7.values.length vc8, .slice ia8 nr7.kids.length ic8] 25)).heap[w7.heap.size]? = some (.cells #[.bool nl7.leaf, .slice ka7 nl7.keys.length kc7, .slice va7 nl7.values.length vc7, .slice ia7 nl7.kids.length ic7] 25 (0, 0)) := block_old _ (block_new _ _)
  have bY8 : ((w7.alloc (.cells #[.bool nl7.leaf, .slice ka7 nl7.keys.length kc7, .slice va7 nl7.values.length vc7, .slice ia7 nl7.kids.length ic7] 25)).alloc (.cells #[.bool nr7.leaf, .slice ka8 nr7.keys.length kc8, .slice va8 nr7.values.length vc8, .slice ia8 nr7.kids.length ic8] 25)).heap[w7.heap.size + 1]? = some (.cells #[.bool nr7.leaf, .slice ka8 nr7.keys.length kc8, .slice va8 nr7.values.length vc8, .slice ia8 nr7.kids.length ic8] 25 (0, 0)) := block_new' _ (by simp)
  have bB8 := below_keeps A7 bB7 (lt_of_block bB7)
  have bO8 := below_keeps A7 bO7 (lt_of_block bO7)
  have bL8 := below_keeps A7 bL7 (lt_of_block bL7)
  have bR8 := below_keeps A7 bR7 (lt_of_block bR7)
  obtain ⟨cL0, cL1, cL2, cL3, -, -, -, -⟩ := cells4 bL8
  obtain ⟨cX0, cX1, cX2, cX3, -, -, -, -⟩ := cells4 bX8
  have K8 := (K6.trans k7).trans A7
  go_wp2_with fail
  generalize hW8 : (w7.alloc (.cells #[.bool nl7.leaf, .slice ka7 nl7.keys.length kc7, .slice va7 nl7.values.length vc7, .slice ia7 nl7.kids.length ic7] 25)).alloc (.cells #[.bool nr7.leaf, .slice ka8 nr7.keys.length kc8, .slice va8 nr7.values.length vc8, .slice ia8 nr7.kids.length ic8] 25) = W8 at *
  generalize hD7 : w7.heap.size = D7 at *
  have ql8 := ql6.below (k7.trans A7)
  have qr8 := qr6.below (k7.trans A7)
  have pl8 := pl.below A7
  have pr8 := pr.below A7
  have hO8 := hO6.below (k7.trans A7)
  clear hW8 hD7 A7 k7 bB7 bO7 bL7 bR7 lB7 lO7 lL7 lR7 ql6 qr6 pl pr hO6 bB6 bO6 bL6 bR6 K6
  refine (same_nodes W8 _ _ _ _ nl7 ⟨_, _, _, _, _, _, rfl, ql8⟩ ⟨_, _, _, _, _, _, rfl, pl8⟩).mono ?_
  rintro e w9 ⟨rfl, k9⟩
  clear cL0 cL1 cL2 cL3 cX0 cX1 cX2 cX3
  have bB9 := below_keeps k9 bB8 (lt_of_block bB8)
  have bO9 := below_keeps k9 bO8 (lt_of_block bO8)
  have bL9 := below_keeps k9 bL8 (lt_of_block bL8)
  have bR9 := below_keeps k9 bR8 (lt_of_block bR8)
  have bX9 := below_keeps k9 bX8 (lt_of_block bX8)
  have bY9 := below_keeps k9 bY8 (lt_of_block bY8)
  obtain ⟨cR0, cR1, cR2, cR3, -, -, -, -⟩ := cells4 bR9
  obtain ⟨cY0, cY1, cY2, cY3, -, -, -, -⟩ := cells4 bY9
  have K9 := K8.trans k9
  go_wp2_with fail
  refine (same_nodes w9 _ _ _ _ nr7 ⟨_, _, _, _, _, _, rfl, qr8.below k9⟩ ⟨_, _, _, _, _, _, rfl, pr8.below k9⟩).mono ?_
  rintro e wa ⟨rfl, k10⟩
  clear bX8 bY8 bX9 bY9 pl8 pr8 bB8 bO8 bL8 bR8
  clear cR0 cR1 cR2 cR3 cY0 cY1 cY2 cY3
  have bBa := below_keeps k10 bB9 (lt_of_block bB9)
  have bOa := below_keeps k10 bO9 (lt_of_block bO9)
  have bLa := below_keeps k10 bL9 (lt_of_block bL9)
  have bRa := below_keeps k10 bR9 (lt_of_block bR9)
  obtain ⟨cB0, cB1, cB2, cB3, -, -, -, -⟩ := cells4 bBa
  obtain ⟨cO0, cO1, cO2, cO3, -, -, -, -⟩ := cells4 bOa
  have Ka := K9.trans k10
  have hOa := hO8.below (k9.trans k10)
  have qla := ql8.below (k9.trans k10)
  have qra := qr8.below (k9.trans k10)
  clear bB9 bO9 bL9 bR9 ql8 qr8 hO8
  go_wp2_with fail
  refine (same_nodes wa _ _ _ _ n ⟨_, _, _, _, _, _, rfl, hOa⟩ (hv'.bl Ka)).mono ?_
  rintro e wb ⟨rfl, k11⟩
  clear cB0 cB1 cB2 cB3 cO0 cO1 cO2 cO3
  have bBb := below_keeps k11 bBa (lt_of_block bBa)
  have bLb := below_keeps k11 bLa (lt_of_block bLa)
  have bRb := below_keeps k11 bRa (lt_of_block bRa)
  have Kb := Ka.trans k11
  have qlb := qla.below k11
  have qrb := qra.below k11
  clear bBa bOa bLa bRa qla qra hOa k9 k10 k11 K9 Ka
  by_cases he : er7 = 0
  · subst he
    obtain ⟨hh, cc, HN⟩ := hsp.cut
    have hkk := cc.keyOk
    have hkl := cc.lt
    have hpos := cc.half.pos
    have EL := Lib.hid HN
    clear HN
    have kl1 : (1 : Int) ≤ (nl7.keys.length : Int) := by rw [EL.out.1, cc.left_keys]; omega
    have kr1 : (1 : Int) ≤ (nr7.keys.length : Int) := by
      rw [EL.out.2.2, cc.right_keys]
      cases hf : n.leaf with
      | true => simp; omega
      | false => have := cc.room hf; simp; omega
    obtain ⟨cB0, cB1, cB2, cB3, -, -, -, -⟩ := cells4 bBb
    obtain ⟨cL0, cL1, cL2, cL3, -, -, -, -⟩ := cells4 bLb
    obtain ⟨cR0, cR1, cR2, cR3, -, -, -, -⟩ := cells4 bRb
    go_wp2_with fail
    have hjo : ups (nl7.join key7 nr7).keys = true := by rw [EL.out.1, EL.out.2.1, EL.out.2.2, cc.join]; exact cc.upsOk
    refine (join_ok wb _ _ _ _ nl7 nr7 key7 ⟨_, _, _, _, _, _, rfl, qlb⟩ ⟨_, _, _, _, _, _, rfl, qrb⟩ (by rw [EL.out.1]; exact cc.left_small sm) (by rw [EL.out.2.2]; exact cc.right_small sm) (by rw [EL.out.1]; exact ND.Lens.of cc.left_lens) (by rw [EL.out.2.2]; exact ND.Lens.of cc.right_lens) (by rw [EL.out.1, EL.out.2.2, cc.left_leaf, cc.right_leaf]) (by rw [EL.out.1]; exact cc.left_pcheck) (by rw [EL.out.2.2]; exact cc.right_pcheck) (.inr (by rw [EL.out.2.1]; exact hkk)) (by rw [EL.out.2.1]; simp [keyOk] at hkk; omega) hjo (by rw [EL.out.1, EL.out.2.1, EL.out.2.2, cc.join]; exact sm)).mono ?_
    rw [show nl7.join key7 nr7 = n by rw [EL.out.1, EL.out.2.1, EL.out.2.2, cc.join]]
    rintro e wc ⟨⟨z, rfl, hz⟩, k12⟩
    obtain ⟨ka9, kc9, va9, vc9, ia9, ic9, rfl, qz⟩ := hz
    unfold nodeV
    clear cB0 cB1 cB2 cB3 cL0 cL1 cL2 cL3 cR0 cR1 cR2 cR3
    have bBc := below_keeps k12 bBb (lt_of_block bBb)
    have bLc := below_keeps k12 bLb (lt_of_block bLb)
    have bRc := below_keeps k12 bRb (lt_of_block bRb)
    have A12 : Bl wc (wc.alloc (.cells #[.bool n.leaf, .slice ka9 n.keys.length kc9, .slice va9 n.values.length vc9, .slice ia9 n.kids.length ic9] 25)) := (Bl.refl _).alloc _
    have bZd : (wc.alloc (.cells #[.bool n.leaf, .slice ka9 n.keys.length kc9, .slice va9 n.values.length vc9, .slice ia9 n.kids.length ic9] 25)).heap[wc.heap.size]? = some (.cells #[.bool n.leaf, .slice ka9 n.keys.length kc9, .slice va9 n.values.length vc9, .slice ia9 n.kids.length ic9] 25 (0, 0)) := block_new _ _
    have bBd := below_keeps A12 bBc (lt_of_block bBc)
    have bLd := below_keeps A12 bLc (lt_of_block bLc)
    have bRd := below_keeps A12 bRc (lt_of_block bRc)
    have lBd := lt_of_block bBc
    obtain ⟨cB0, cB1, cB2, cB3, -, -, -, -⟩ := cells4 bBd
    have Kd := (Kb.trans k12).trans A12
    have qld := qlb.below (k12.trans A12)
    have qrd := qrb.below (k12.trans A12)
    have qzd := qz.below A12
    go_wp2_with fail
    generalize hWd : wc.alloc (.cells #[.bool n.leaf, .slice ka9 n.keys.length kc9, .slice va9 n.values.length vc9, .slice ia9 n.kids.length ic9] 25) = Wd at *
    generalize hDd : wc.heap.size = Dd at *
    clear hWd hDd k12 A12 bBb bLb bRb bBc bLc bRc qz qlb qrb Kb lBd
    refine (same_nodes Wd _ _ _ _ n ⟨_, _, _, _, _, _, rfl, qzd⟩ (hv'.bl Kd)).mono ?_
    rintro e we ⟨rfl, k13⟩
    clear cB0 cB1 cB2 cB3
    have bBe := below_keeps k13 bBd (lt_of_block bBd)
    have bLe := below_keeps k13 bLd (lt_of_block bLd)
    have bRe := below_keeps k13 bRd (lt_of_block bRd)
    obtain ⟨cB0, cB1, cB2, cB3, -, -, -, -⟩ := cells4 bBe
    have Ke := Kd.trans k13
    have hln := (ND.check_zero cc.check).1
    have HLN := Lib.hid hln
    clear hln
    go_wp2_with fail
    refine (rsize_any we _ _ n (hv'.bl Ke) sm HLN.out).mono ?_
    rintro e wf ⟨rfl, k14⟩
    clear cB0 cB1 cB2 cB3
    have bBf := below_keeps k14 bBe (lt_of_block bBe)
    have bLf := below_keeps k14 bLe (lt_of_block bLe)
    have bRf := below_keeps k14 bRe (lt_of_block bRe)
    obtain ⟨cL0, cL1, cL2, cL3, -, -, -, -⟩ := cells4 bLf
    obtain ⟨cR0, cR1, cR2, cR3, -, -, -, -⟩ := cells4 bRf
    have Kf := Ke.trans k14
    have qlf := qld.below (k13.trans k14)
    have qrf := qrd.below (k13.trans k14)
    clear bBd bLd bRd bZd bBe bLe bRe qzd qld qrd k13 k14 Kd Ke
    by_cases hbig : (642 : Int) < n.rsize
    · have kr2 : decide (0 < nr7.keys.length) = true := decide_eq_true (by omega)
      go_wp2_with fail
      go_ret
      exact ⟨by first | rfl | (show Ending.returned (.bool (decide (0 < nr7.keys.length))) = _; rw [kr2]), Kf⟩
    · have hsz := cc.sizes (by omega)
      rw [← EL.out.1, ← EL.out.2.2] at hsz
      obtain ⟨hs1, hs2⟩ := hsz
      go_wp2_with fail
      refine (psize_any wf _ _ nl7 ⟨_, _, _, _, _, _, rfl, qlf⟩ (by rw [EL.out.1]; exact cc.left_small sm) (by rw [EL.out.1]; exact cc.left_lens)).mono ?_
      rintro e wg ⟨rfl, k15⟩
      clear cL0 cL1 cL2 cL3 cR0 cR1 cR2 cR3
      have bRg := below_keeps k15 bRf (lt_of_block bRf)
      obtain ⟨cR0, cR1, cR2, cR3, -, -, -, -⟩ := cells4 bRg
      go_wp2_with fail
      refine (psize_any wg _ _ nr7 ⟨_, _, _, _, _, _, rfl, qrf.below k15⟩ (by rw [EL.out.2.2]; exact cc.right_small sm) (by rw [EL.out.2.2]; exact cc.right_lens)).mono ?_
      rintro e wh ⟨rfl, k16⟩
      go_wp2_with fail
      go_ret
      exact ⟨rfl, (Kf.trans k15).trans k16⟩
  · have heb : (er7 != 0) = true := by simpa using he
    go_wp2_with fail
    go_ret
    exact ⟨rfl, Kb⟩
end Go.Proofs.Ytjdkalimaldofaa
