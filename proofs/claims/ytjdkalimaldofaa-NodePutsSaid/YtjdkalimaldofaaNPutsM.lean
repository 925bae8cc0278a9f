/-
  Find, Put, Remove: both sides as one.
-/
import Derived.Test.YtjdkalimaldofaaNPutErr
import Derived.Test.YtjdkalimaldofaaNRPutErr
import Derived.Test.YtjdkalimaldofaaNRRemove
import Derived.Test.YtjdkalimaldofaaNSpoilt
import Derived.Test.YtjdkalimaldofaaNLives
import Derived.Test.YtjdkalimaldofaaNOpen
namespace Go.Proofs.Ytjdkalimaldofaa
open Go.RowKit
set_option linter.unusedSimpArgs false
set_option linter.unusedVariables false
theorem first_is (p : Nat → Bool) : ∀ n, ∃ r, First p n r
  | 0 => ⟨0, Nat.le_refl _, fun k hk => by omega, fun h => by omega⟩
  | n + 1 => by
    obtain ⟨r, h⟩ := first_is p n
    by_cases hr : r < n
    · exact ⟨r, Nat.le_succ_of_le h.le, h.no, fun _ => h.yes hr⟩
    · have hrn : r = n := Nat.le_antisymm h.le (Nat.le_of_not_lt hr)
      subst hrn
      by_cases hp : p r = true
      · exact ⟨r, Nat.le_succ _, h.no, fun _ => hp⟩
      · refine ⟨r + 1, Nat.le_refl _, fun k hk => ?_, fun h => by omega⟩
        by_cases e : k = r
        · subst e; simpa using hp
        · exact h.no k (by omega)
theorem find_is {n : ND} (key : ByteArray) (sm : n.Small) (hck : n.check = 0) : ∃ (r : Nat) (b : Bool),
    (∀ (W : World) (own : Nat → Prop) (v : Value), NodeAt W own v n → Calls Try.prog 23 #[v, .string key] W fun e w' => e = .returned (.tuple #[.int .i64 r, .bool b]) ∧ Bl W w') ∧
    (∀ (W : World) (own : Nat → Prop) (v : Value), NodeAt W own v n → Calls Try.prog 24 #[v, .string key] W fun e w' => e = .returned (.tuple #[.int .i64 r, .bool b]) ∧ Bl W w') := by
  obtain ⟨hl, hsh, -⟩ := ND.check_zero hck
  have hup : ups n.keys = true := by
    unfold ND.shape at hsh
    rw [Bool.and_eq_true, Bool.and_eq_true] at hsh
    exact hsh.2
  cases hf : n.leaf
  · obtain ⟨r, hr⟩ := first_is (fun k => lessB key (atL n.keys k)) n.keys.length
    refine ⟨r, false, fun W own v h => ?_, fun W own v h => ?_⟩
    · refine (findinner_any W own v n key h sm hup hf).mono ?_
      rintro e w' ⟨⟨q, rfl, hq⟩, k⟩
      rw [First.uniq hq hr]
      exact ⟨rfl, k⟩
    · refine (rfindinner_any W own v n key h sm hf).mono ?_
      rintro e w' ⟨⟨q, rfl, hq⟩, k⟩
      rw [First.uniq hq hr]
      exact ⟨rfl, k⟩
  · obtain ⟨r, hr⟩ := first_is (fun k => !(lessB (atL n.keys k) key)) n.keys.length
    refine ⟨r, n.finds key r, fun W own v h => ?_, fun W own v h => ?_⟩
    · refine (findleaf_any W own v n key h sm hup hf).mono ?_
      rintro e w' ⟨⟨q, rfl, hq⟩, k⟩
      rw [First.uniq hq hr]
      exact ⟨rfl, k⟩
    · refine (rfindleaf_any W own v n key h sm hf).mono ?_
      rintro e w' ⟨⟨q, rfl, hq⟩, k⟩
      rw [First.uniq hq hr]
      exact ⟨rfl, k⟩
def PutsTo (n : ND) (key value : ByteArray) (C : Int) (M : ND) : Prop :=
    (∀ (W : World) (own : Nat → Prop) (v : Value), NodeAt W own v n → Calls Try.prog 25 #[v, .string key, .string value] W fun e w' => (∃ u, e = .returned (.tuple #[u, .int .i64 C]) ∧ OwnNode w' W.heap.size u M) ∧ Bl W w') ∧
    (∀ (W : World) (own : Nat → Prop) (v : Value), NodeAt W own v n → Calls Try.prog 26 #[v, .string key, .string value] W fun e w' => (∃ u, e = .returned (.tuple #[u, .int .i64 C]) ∧ NodeAt w' (fun j => W.heap.size ≤ j) u M) ∧ Bl W w')
theorem put_is {n : ND} (key value : ByteArray) (sm : n.Small) (ln : n.Lens) (hroom : n.keys.length ≤ 8796093022207) (hkz : key.size ≤ 9223372036854775807) (hxz : value.size ≤ 9223372036854775807) : ∃ C M, PutsTo n key value C M := by
  by_cases hck : n.check = 0
  · cases hf : n.leaf
    · exact ⟨90, .empty, fun W own v h => put_inner W own v n key value h sm ln hkz hxz hf, fun W own v h => rput_inner W own v n key value h sm ln hck hf⟩
    · cases hk : keyOk key
      · refine ⟨91, .empty, fun W own v h => put_badkey W own v n key value h sm ln hkz hxz hf hck hk, fun W own v h => ?_⟩
        by_cases h1 : (key.size : Int) < 1
        · exact rput_short W own v n key value h sm ln hck hf h1
        · refine rput_long W own v n key value h sm ln hck hf h1 ?_
          simp only [keyOk, Bool.and_eq_false_iff, decide_eq_false_iff_not] at hk
          omega
      · have hk' := hk
        simp only [keyOk, Bool.and_eq_true, decide_eq_true_eq] at hk'
        cases hx : valOk value
        · refine ⟨91, .empty, fun W own v h => put_badvalue W own v n key value h sm ln hkz hxz hf hck hk hx, fun W own v h => ?_⟩
          simp only [valOk, decide_eq_false_iff_not] at hx
          exact rput_wide W own v n key value h sm ln hck hf (by omega) (by omega) (by omega)
        · obtain ⟨r, hr⟩ := first_is (fun k => !(lessB (atL n.keys k) key)) n.keys.length
          refine ⟨0, n.put key value r, fun W own v h => ?_, fun W own v h => ?_⟩
          · refine (put_leaf W own v n key value h sm ln hck hf hk hx hroom).mono ?_
            rintro e w' ⟨⟨u, q, rfl, hq, ho⟩, k⟩
            rw [First.uniq hq hr] at ho
            exact ⟨⟨u, rfl, ho⟩, k⟩
          · refine (rput_leaf W own v n key value h sm ln hck hf hk hx hroom).mono ?_
            rintro e w' ⟨⟨u, q, rfl, hq, ho⟩, k⟩
            rw [First.uniq hq hr] at ho
            exact ⟨⟨u, rfl, ho⟩, k⟩
  · refine ⟨90, .empty, fun W own v h => ?_, fun W own v h => rput_unfit W own v n key value h sm ln hck⟩
    cases hf : n.leaf
    · exact put_inner W own v n key value h sm ln hkz hxz hf
    · exact put_unfit W own v n key value h sm ln hkz hxz hf hck
theorem remove_is {n : ND} (key : ByteArray) (sm : n.Small) (hck : n.check = 0) : ∃ (M : ND) (b : Bool),
    (∀ (W : World) (own : Nat → Prop) (v : Value), NodeAt W own v n → Calls Try.prog 28 #[v, .string key] W fun e w' => (∃ u, e = .returned (.tuple #[u, .bool b]) ∧ NodeAt w' (fun j => W.heap.size ≤ j) u M) ∧ Bl W w') ∧
    (∀ (W : World) (own : Nat → Prop) (v : Value), NodeAt W own v n → Calls Try.prog 29 #[v, .string key] W fun e w' => (∃ u, e = .returned (.tuple #[u, .bool b]) ∧ NodeAt w' (fun j => W.heap.size ≤ j) u M) ∧ Bl W w') := by
  obtain ⟨hl, hsh, -⟩ := ND.check_zero hck
  have hup : ups n.keys = true := by
    unfold ND.shape at hsh
    rw [Bool.and_eq_true, Bool.and_eq_true] at hsh
    exact hsh.2
  cases hf : n.leaf
  · refine ⟨n, false, fun W own v h => ?_, fun W own v h => ?_⟩
    · refine (remove_any W own v n key (n.above key) (fun _ => false) h sm (fun W own v h => findinner_any W own v n key h sm hup hf) (fun r _ hr => by cases hr)).mono ?_
      rintro e w' ⟨⟨u, q, rfl, hq, ho⟩, k⟩
      exact ⟨⟨u, rfl, ho.at⟩, k⟩
    · refine (rremove_inner W own v n key h sm hf).mono ?_
      rintro e w' ⟨⟨u, q, rfl, hq, ho⟩, k⟩
      exact ⟨⟨u, rfl, ho⟩, k⟩
  · obtain ⟨r, hr⟩ := first_is (fun k => !(lessB (atL n.keys k) key)) n.keys.length
    refine ⟨if n.finds key r = true then n.without r else n, n.finds key r, fun W own v h => ?_, fun W own v h => ?_⟩
    · refine (remove_leaf W own v n key h sm hck hf).mono ?_
      rintro e w' ⟨⟨u, q, rfl, hq, ho⟩, k⟩
      rw [First.uniq hq hr] at ho ⊢
      exact ⟨⟨u, rfl, ho.at⟩, k⟩
    · refine (rremove_leaf W own v n key h sm hf (ND.form_leaf (ND.shape_form hsh) hf).1).mono ?_
      rintro e w' ⟨⟨u, q, rfl, hq, ho⟩, k⟩
      rw [First.uniq hq hr] at ho ⊢
      exact ⟨⟨u, rfl, ho⟩, k⟩
end Go.Proofs.Ytjdkalimaldofaa
/-
  NodePuts: the walk.
-/
namespace Go.Proofs.Ytjdkalimaldofaa
open Go.RowKit
set_option linter.unusedSimpArgs false
set_option linter.unusedVariables false
theorem NodeAt.mono' {w : World} {own own2 : Nat → Prop} {v : Value} {n : ND} (h : NodeAt w own v n) (ho : ∀ k, k < w.heap.size → own k → own2 k) : NodeAt w own2 v n := by
  obtain ⟨ka, kc, va, vc, ia, ic, e, h⟩ := h
  exact ⟨ka, kc, va, vc, ia, ic, e, h.mono ho⟩
theorem NodeAt.chg' {w w' : World} {own own2 : Nat → Prop} {v : Value} {n : ND} (h : NodeAt w own v n) (k : Chg own2 w w') (hd : ∀ k, own k → ¬ own2 k) : NodeAt w' own v n := by
  obtain ⟨ka, kc, va, vc, ia, ic, e, h⟩ := h
  exact ⟨ka, kc, va, vc, ia, ic, e, h.chg k hd⟩
theorem OwnNode.bl {w w' : World} {base : Nat} {u : Value} {m : ND} (h : OwnNode w base u m) (k : Bl w w') : OwnNode w' base u m := by
  obtain ⟨ka, kc, va, vc, ia, ic, K, V, I, e, q, ap, tp⟩ := h
  exact ⟨ka, kc, va, vc, ia, ic, K, V, I, e, ⟨q.keys.below k, q.values.below k, q.kids.below k⟩, ap, fun j hj => Nat.lt_of_lt_of_le (tp j hj) k.size⟩
set_option maxRecDepth 100000 in
set_option maxHeartbeats 4000000 in
theorem puts_bad (w : World) (own : Nat → Prop) (v : Value) (n : ND) (key value : ByteArray) (hv : NodeAt w own v n) (sm : n.Small) (ln : n.Lens) (hroom : n.keys.length ≤ 8796093022207) (hkz : key.size ≤ 9223372036854775807) (hxz : value.size ≤ 9223372036854775807) (hck : n.check ≠ 0) :
    Calls Try.prog 6 #[v, .string key, .string value] w fun e w' => e = .returned (.bool true) ∧ Bl w w' := by
  obtain ⟨C, M, HPUT⟩ := put_is key value sm ln hroom hkz hxz
  have HPUT := Lib.hid HPUT
  have hcb : (n.check != 0) = true := by simpa using hck
  have hce : (n.check == 0) = false := by simpa using hck
  have hv := hv.mono' (own2 := fun j => own j ∧ j < w.heap.size) (fun j hj e => ⟨e, hj⟩)
  have hv' := hv
  obtain ⟨ka, kc, va, vc, ia, ic, rfl, h⟩ := hv
  unfold nodeV
  unfold nodeV at hv'
  have kB : Bl w (w.alloc (.cells #[.bool n.leaf, .slice ka n.keys.length kc, .slice va n.values.length vc, .slice ia n.kids.length ic] 25)) := (Bl.refl w).alloc _
  have b1 : (w.alloc (.cells #[.bool n.leaf, .slice ka n.keys.length kc, .slice va n.values.length vc, .slice ia n.kids.length ic] 25)).heap[w.heap.size]? = some (.cells #[.bool n.leaf, .slice ka n.keys.length kc, .slice va n.values.length vc, .slice ia n.kids.length ic] 25 (0, 0)) := block_new _ _
  have hcc : (C != C) = false := by simp
  clear h
  go_enter Try.func6, Try.ntmps6
  go_wp2_with fail
  generalize hW1 : w.alloc (.cells #[.bool n.leaf, .slice ka n.keys.length kc, .slice va n.values.length vc, .slice ia n.kids.length ic] 25) = W1 at *
  clear hW1
  refine (lives_any W1).mono ?_
  rintro e w2 ⟨rfl, k2⟩
  have b2 := below_keeps k2 b1 (lt_of_block b1)
  have K2 := kB.trans k2
  obtain ⟨c0, c1, c2, c3, -⟩ := cells4 b2
  clear b1 kB k2
  go_wp2_with fail
  refine (rcopy_any w2 _ _ n (hv'.bl K2) sm).mono ?_
  rintro e w3 ⟨⟨v3, rfl, ka3, kc3, va3, vc3, ia3, ic3, rfl, q3⟩, k3⟩
  have b3 := below_keeps k3 b2 (lt_of_block b2)
  have K3 := K2.trans k3
  unfold nodeV
  clear c0 c1 c2 c3
  have A4 : Bl w3 (w3.alloc (.cells #[.bool n.leaf, .slice ka3 n.keys.length kc3, .slice va3 n.values.length vc3, .slice ia3 n.kids.length ic3] 25)) := (Bl.refl _).alloc _
  have bO : (w3.alloc (.cells #[.bool n.leaf, .slice ka3 n.keys.length kc3, .slice va3 n.values.length vc3, .slice ia3 n.kids.length ic3] 25)).heap[w3.heap.size]? = some (.cells #[.bool n.leaf, .slice ka3 n.keys.length kc3, .slice va3 n.values.length vc3, .slice ia3 n.kids.length ic3] 25 (0, 0)) := block_new _ _
  have bN := below_keeps A4 b3 (lt_of_block b3)
  have K4 := K3.trans A4
  have q4 := q3.below A4
  obtain ⟨c0, c1, c2, c3, -⟩ := cells4 bN
  go_wp2_with fail
  generalize hW4 : w3.alloc (.cells #[.bool n.leaf, .slice ka3 n.keys.length kc3, .slice va3 n.values.length vc3, .slice ia3 n.kids.length ic3] 25) = W4 at *
  generalize hB7 : w3.heap.size = B7 at *
  clear hW4 A4 k3 b2 b3 q3 K2 K3 c0 c1 c2 c3
  have s4 := K4.size
  have lD := lt_of_block bN
  have lO := lt_of_block bO
  have FK : Hid (∀ w', Chg (fun j => W4.heap.size ≤ j) W4 w' → w'.cell? ⟨w.heap.size, 0, none⟩ = some (.bool n.leaf) ∧ w'.cell? ⟨w.heap.size, 1, none⟩ = some (.slice ka n.keys.length kc) ∧ w'.cell? ⟨w.heap.size, 2, none⟩ = some (.slice va n.values.length vc) ∧ w'.cell? ⟨w.heap.size, 3, none⟩ = some (.slice ia n.kids.length ic) ∧ w'.cell? ⟨B7, 0, none⟩ = some (.bool n.leaf) ∧ w'.cell? ⟨B7, 1, none⟩ = some (.slice ka3 n.keys.length kc3) ∧ w'.cell? ⟨B7, 2, none⟩ = some (.slice va3 n.values.length vc3) ∧ w'.cell? ⟨B7, 3, none⟩ = some (.slice ia3 n.kids.length ic3)) := fun w' kk => by
    have q1 := cells4 (kk.keeps bN (by omega))
    have q2 := cells4 (kk.keeps bO (by omega))
    exact ⟨q1.1, q1.2.1, q1.2.2.1, q1.2.2.2.1, q2.1, q2.2.1, q2.2.2.1, q2.2.2.2.1⟩
  have FV : Hid (∀ w', Chg (fun j => W4.heap.size ≤ j) W4 w' → NodeAt w' (fun j => own j ∧ j < w.heap.size) (.agg #[.bool n.leaf, .slice ka n.keys.length kc, .slice va n.values.length vc, .slice ia n.kids.length ic]) n) := fun w' kk => (hv'.bl K4).chg' kk (fun j hj e => by omega)
  have FO : Hid (∀ w', Chg (fun j => W4.heap.size ≤ j) W4 w' → NodeAt w' (fun j => w2.heap.size ≤ j ∧ j < W4.heap.size) (.agg #[.bool n.leaf, .slice ka3 n.keys.length kc3, .slice va3 n.values.length vc3, .slice ia3 n.kids.length ic3]) n) := fun w' kk => ((show NodeAt W4 (fun k => w2.heap.size ≤ k) (.agg #[.bool n.leaf, .slice ka3 n.keys.length kc3, .slice va3 n.values.length vc3, .slice ia3 n.kids.length ic3]) n from ⟨_, _, _, _, _, _, rfl, q4⟩).mono' (fun j hj e => ⟨e, hj⟩)).chg' kk (fun j hj e => by omega)
  have LW := Lib.hid s4
  clear hv' q4 bN bO s4 lD lO
  refine (rcheck_any W4 _ _ n (FV.out _ (Chg.refl _ _)) sm ln).mono ?_
  rintro e w5 ⟨rfl, k5⟩
  have C5 : Chg (fun j => W4.heap.size ≤ j) W4 w5 := Chg.of_below k5
  obtain ⟨c0, c1, c2, c3, d0, d1, d2, d3⟩ := FK.out _ C5
  go_wp2_with fail
  refine (HPUT.out.1 w5 _ _ (FO.out _ C5)).mono ?_
  rintro e w8 ⟨⟨ua, rfl, hoa⟩, k8⟩
  have C8 := C5.trans (Chg.of_below k8)
  have sP := C5.size
  have hoa' := hoa
  obtain ⟨ka5, kc5, va5, vc5, ia5, ic5, K5, V5, I5, rfl, -, -, -⟩ := hoa'
  unfold nodeV
  unfold nodeV at hoa
  have A9 : Bl w8 (w8.alloc (.cells #[.bool M.leaf, .slice ka5 M.keys.length kc5, .slice va5 M.values.length vc5, .slice ia5 M.kids.length ic5] 25)) := (Bl.refl _).alloc _
  have bA : (w8.alloc (.cells #[.bool M.leaf, .slice ka5 M.keys.length kc5, .slice va5 M.values.length vc5, .slice ia5 M.kids.length ic5] 25)).heap[w8.heap.size]? = some (.cells #[.bool M.leaf, .slice ka5 M.keys.length kc5, .slice va5 M.values.length vc5, .slice ia5 M.kids.length ic5] 25 (0, 0)) := block_new _ _
  have C9 := C8.trans (Chg.of_below A9)
  have hoa := hoa.bl A9
  clear c0 c1 c2 c3 d0 d1 d2 d3
  obtain ⟨c0, c1, c2, c3, d0, d1, d2, d3⟩ := FK.out _ C9
  go_wp2_with fail
  generalize hW9 : w8.alloc (.cells #[.bool M.leaf, .slice ka5 M.keys.length kc5, .slice va5 M.values.length vc5, .slice ia5 M.kids.length ic5] 25) = W9 at *
  generalize hB12 : w8.heap.size = B12 at *
  clear hW9 A9 k8
  refine (HPUT.out.2 W9 _ _ (FV.out _ C9)).mono ?_
  rintro e w10 ⟨⟨ub, rfl, hob⟩, k10⟩
  have C10 := C9.trans (Chg.of_below k10)
  obtain ⟨ka6, kc6, va6, vc6, ia6, ic6, rfl, hob⟩ := hob
  unfold nodeV
  have A11 : Bl w10 (w10.alloc (.cells #[.bool M.leaf, .slice ka6 M.keys.length kc6, .slice va6 M.values.length vc6, .slice ia6 M.kids.length ic6] 25)) := (Bl.refl _).alloc _
  have bB : (w10.alloc (.cells #[.bool M.leaf, .slice ka6 M.keys.length kc6, .slice va6 M.values.length vc6, .slice ia6 M.kids.length ic6] 25)).heap[w10.heap.size]? = some (.cells #[.bool M.leaf, .slice ka6 M.keys.length kc6, .slice va6 M.values.length vc6, .slice ia6 M.kids.length ic6] 25 (0, 0)) := block_new _ _
  have C11 := C10.trans (Chg.of_below A11)
  have hoa := hoa.bl (k10.trans A11)
  have hob := hob.below A11
  have bA := below_keeps (k10.trans A11) bA (lt_of_block bA)
  clear c0 c1 c2 c3 d0 d1 d2 d3
  obtain ⟨a0, a1, a2, a3, -⟩ := cells4 bA
  go_wp2_with fail
  generalize hW11 : w10.alloc (.cells #[.bool M.leaf, .slice ka6 M.keys.length kc6, .slice va6 M.values.length vc6, .slice ia6 M.kids.length ic6] 25) = W11 at *
  generalize hB14 : w10.heap.size = B14 at *
  clear hW11 A11 k10
  refine (same_nodes W11 _ _ _ _ M hoa.at ⟨_, _, _, _, _, _, rfl, hob⟩).mono ?_
  rintro e w12 ⟨rfl, k12⟩
  have C12 := C11.trans (Chg.of_below k12)
  have hoa := hoa.bl k12
  have bA := below_keeps k12 bA (lt_of_block bA)
  clear a0 a1 a2 a3 hob bB
  obtain ⟨c0, c1, c2, c3, d0, d1, d2, d3⟩ := FK.out _ C12
  go_wp2_with fail
  refine (same_nodes w12 _ _ _ _ n (FO.out _ C12) (FV.out _ C12)).mono ?_
  rintro e w13 ⟨rfl, k13⟩
  have C13 := C12.trans (Chg.of_below k13)
  have hoa := hoa.bl k13
  have bA := below_keeps k13 bA (lt_of_block bA)
  clear c0 c1 c2 c3 d0 d1 d2 d3
  obtain ⟨a0, a1, a2, a3, -⟩ := cells4 bA
  go_wp2_with fail
  refine (spoilt_any w13 _ _ M hoa).mono ?_
  rintro e w14 ⟨rfl, k14⟩
  have C14 := C13.trans (k14.mono (own2 := fun j => W4.heap.size ≤ j) (fun j _ e => by omega))
  clear a0 a1 a2 a3 hoa bA
  obtain ⟨c0, c1, c2, c3, d0, d1, d2, d3⟩ := FK.out _ C14
  go_wp2_with fail
  refine (same_nodes w14 _ _ _ _ n (FO.out _ C14) (FV.out _ C14)).mono ?_
  rintro e w15 ⟨rfl, k15⟩
  have C15 := C14.trans (Chg.of_below k15)
  clear c0 c1 c2 c3 d0 d1 d2 d3
  obtain ⟨c0, c1, c2, c3, d0, d1, d2, d3⟩ := FK.out _ C15
  go_wp2_with fail
  refine (rcheck_any w15 _ _ n (FV.out _ C15) sm ln).mono ?_
  rintro e w16 ⟨rfl, k16⟩
  have C16 := C15.trans (Chg.of_below k16)
  clear c0 c1 c2 c3 d0 d1 d2 d3
  clear C8 C9 C10 C11 C12 C13 C14 C15
  go_wp2_with fail
  go_ret
  exact ⟨rfl, K4.chg C16 (fun i hi e => by have := LW.out; omega)⟩
set_option maxRecDepth 100000 in
set_option maxHeartbeats 4000000 in
theorem puts_ok (w : World) (own : Nat → Prop) (v : Value) (n : ND) (key value : ByteArray) (hv : NodeAt w own v n) (sm : n.Small) (ln : n.Lens) (hroom : n.keys.length ≤ 8796093022207) (hkz : key.size ≤ 9223372036854775807) (hxz : value.size ≤ 9223372036854775807) (hck : n.check = 0) :
    Calls Try.prog 6 #[v, .string key, .string value] w fun e w' => e = .returned (.bool true) ∧ Bl w w' := by
  obtain ⟨C, M, HPUT⟩ := put_is key value sm ln hroom hkz hxz
  have HPUT := Lib.hid HPUT
  obtain ⟨r, b, HFIND⟩ := find_is key sm hck
  obtain ⟨N, b2, HREM⟩ := remove_is key sm hck
  have HFIND := Lib.hid HFIND
  have HREM := Lib.hid HREM
  have hrr : ((r : Int) != (r : Int)) = false := by simp
  have hbb : (b != b) = false := by simp
  have hgg : (b2 == b2) = true := by simp
  have HCK := Lib.hid hck
  clear hck
  have hv := hv.mono' (own2 := fun j => own j ∧ j < w.heap.size) (fun j hj e => ⟨e, hj⟩)
  have hv' := hv
  obtain ⟨ka, kc, va, vc, ia, ic, rfl, h⟩ := hv
  unfold nodeV
  unfold nodeV at hv'
  have kB : Bl w (w.alloc (.cells #[.bool n.leaf, .slice ka n.keys.length kc, .slice va n.values.length vc, .slice ia n.kids.length ic] 25)) := (Bl.refl w).alloc _
  have b1 : (w.alloc (.cells #[.bool n.leaf, .slice ka n.keys.length kc, .slice va n.values.length vc, .slice ia n.kids.length ic] 25)).heap[w.heap.size]? = some (.cells #[.bool n.leaf, .slice ka n.keys.length kc, .slice va n.values.length vc, .slice ia n.kids.length ic] 25 (0, 0)) := block_new _ _
  have hcc : (C != C) = false := by simp
  clear h
  go_enter Try.func6, Try.ntmps6
  go_wp2_with fail
  generalize hW1 : w.alloc (.cells #[.bool n.leaf, .slice ka n.keys.length kc, .slice va n.values.length vc, .slice ia n.kids.length ic] 25) = W1 at *
  clear hW1
  refine (lives_any W1).mono ?_
  rintro e w2 ⟨rfl, k2⟩
  have b2 := below_keeps k2 b1 (lt_of_block b1)
  have K2 := kB.trans k2
  obtain ⟨c0, c1, c2, c3, -⟩ := cells4 b2
  clear b1 kB k2
  go_wp2_with fail
  refine (rcopy_any w2 _ _ n (hv'.bl K2) sm).mono ?_
  rintro e w3 ⟨⟨v3, rfl, ka3, kc3, va3, vc3, ia3, ic3, rfl, q3⟩, k3⟩
  have b3 := below_keeps k3 b2 (lt_of_block b2)
  have K3 := K2.trans k3
  unfold nodeV
  clear c0 c1 c2 c3
  have A4 : Bl w3 (w3.alloc (.cells #[.bool n.leaf, .slice ka3 n.keys.length kc3, .slice va3 n.values.length vc3, .slice ia3 n.kids.length ic3] 25)) := (Bl.refl _).alloc _
  have bO : (w3.alloc (.cells #[.bool n.leaf, .slice ka3 n.keys.length kc3, .slice va3 n.values.length vc3, .slice ia3 n.kids.length ic3] 25)).heap[w3.heap.size]? = some (.cells #[.bool n.leaf, .slice ka3 n.keys.length kc3, .slice va3 n.values.length vc3, .slice ia3 n.kids.length ic3] 25 (0, 0)) := block_new _ _
  have bN := below_keeps A4 b3 (lt_of_block b3)
  have K4 := K3.trans A4
  have q4 := q3.below A4
  obtain ⟨c0, c1, c2, c3, -⟩ := cells4 bN
  go_wp2_with fail
  generalize hW4 : w3.alloc (.cells #[.bool n.leaf, .slice ka3 n.keys.length kc3, .slice va3 n.values.length vc3, .slice ia3 n.kids.length ic3] 25) = W4 at *
  generalize hB7 : w3.heap.size = B7 at *
  clear hW4 A4 k3 b2 b3 q3 K2 K3 c0 c1 c2 c3
  have s4 := K4.size
  have lD := lt_of_block bN
  have lO := lt_of_block bO
  have FK : Hid (∀ w', Chg (fun j => W4.heap.size ≤ j) W4 w' → w'.cell? ⟨w.heap.size, 0, none⟩ = some (.bool n.leaf) ∧ w'.cell? ⟨w.heap.size, 1, none⟩ = some (.slice ka n.keys.length kc) ∧ w'.cell? ⟨w.heap.size, 2, none⟩ = some (.slice va n.values.length vc) ∧ w'.cell? ⟨w.heap.size, 3, none⟩ = some (.slice ia n.kids.length ic) ∧ w'.cell? ⟨B7, 0, none⟩ = some (.bool n.leaf) ∧ w'.cell? ⟨B7, 1, none⟩ = some (.slice ka3 n.keys.length kc3) ∧ w'.cell? ⟨B7, 2, none⟩ = some (.slice va3 n.values.length vc3) ∧ w'.cell? ⟨B7, 3, none⟩ = some (.slice ia3 n.kids.length ic3)) := fun w' kk => by
    have q1 := cells4 (kk.keeps bN (by omega))
    have q2 := cells4 (kk.keeps bO (by omega))
    exact ⟨q1.1, q1.2.1, q1.2.2.1, q1.2.2.2.1, q2.1, q2.2.1, q2.2.2.1, q2.2.2.2.1⟩
  have FV : Hid (∀ w', Chg (fun j => W4.heap.size ≤ j) W4 w' → NodeAt w' (fun j => own j ∧ j < w.heap.size) (.agg #[.bool n.leaf, .slice ka n.keys.length kc, .slice va n.values.length vc, .slice ia n.kids.length ic]) n) := fun w' kk => (hv'.bl K4).chg' kk (fun j hj e => by omega)
  have FO : Hid (∀ w', Chg (fun j => W4.heap.size ≤ j) W4 w' → NodeAt w' (fun j => w2.heap.size ≤ j ∧ j < W4.heap.size) (.agg #[.bool n.leaf, .slice ka3 n.keys.length kc3, .slice va3 n.values.length vc3, .slice ia3 n.kids.length ic3]) n) := fun w' kk => ((show NodeAt W4 (fun k => w2.heap.size ≤ k) (.agg #[.bool n.leaf, .slice ka3 n.keys.length kc3, .slice va3 n.values.length vc3, .slice ia3 n.kids.length ic3]) n from ⟨_, _, _, _, _, _, rfl, q4⟩).mono' (fun j hj e => ⟨e, hj⟩)).chg' kk (fun j hj e => by omega)
  have LW := Lib.hid s4
  clear hv' q4 bN bO s4 lD lO
  refine (rcheck_any W4 _ _ n (FV.out _ (Chg.refl _ _)) sm ln).mono ?_
  rw [HCK.out]
  rintro e w5 ⟨rfl, k5⟩
  have C5 : Chg (fun j => W4.heap.size ≤ j) W4 w5 := Chg.of_below k5
  obtain ⟨c0, c1, c2, c3, d0, d1, d2, d3⟩ := FK.out _ C5
  go_wp2_with fail
  refine (HFIND.out.1 w5 _ _ (FO.out _ C5)).mono ?_
  rintro e w6 ⟨rfl, k6⟩
  have C6 := C5.trans (Chg.of_below k6)
  clear c0 c1 c2 c3 d0 d1 d2 d3
  obtain ⟨c0, c1, c2, c3, d0, d1, d2, d3⟩ := FK.out _ C6
  go_wp2_with fail
  refine (HFIND.out.2 w6 _ _ (FV.out _ C6)).mono ?_
  rintro e w7 ⟨rfl, k7⟩
  have C7 := C6.trans (Chg.of_below k7)
  clear c0 c1 c2 c3 d0 d1 d2 d3
  obtain ⟨c0, c1, c2, c3, d0, d1, d2, d3⟩ := FK.out _ C7
  go_wp2_with fail
  refine (HPUT.out.1 w7 _ _ (FO.out _ C7)).mono ?_
  rintro e w8 ⟨⟨ua, rfl, hoa⟩, k8⟩
  have C8 := C7.trans (Chg.of_below k8)
  have sP := C7.size
  have hoa' := hoa
  obtain ⟨ka5, kc5, va5, vc5, ia5, ic5, K5, V5, I5, rfl, -, -, -⟩ := hoa'
  unfold nodeV
  unfold nodeV at hoa
  have A9 : Bl w8 (w8.alloc (.cells #[.bool M.leaf, .slice ka5 M.keys.length kc5, .slice va5 M.values.length vc5, .slice ia5 M.kids.length ic5] 25)) := (Bl.refl _).alloc _
  have bA : (w8.alloc (.cells #[.bool M.leaf, .slice ka5 M.keys.length kc5, .slice va5 M.values.length vc5, .slice ia5 M.kids.length ic5] 25)).heap[w8.heap.size]? = some (.cells #[.bool M.leaf, .slice ka5 M.keys.length kc5, .slice va5 M.values.length vc5, .slice ia5 M.kids.length ic5] 25 (0, 0)) := block_new _ _
  have C9 := C8.trans (Chg.of_below A9)
  have hoa := hoa.bl A9
  clear c0 c1 c2 c3 d0 d1 d2 d3
  obtain ⟨c0, c1, c2, c3, d0, d1, d2, d3⟩ := FK.out _ C9
  go_wp2_with fail
  generalize hW9 : w8.alloc (.cells #[.bool M.leaf, .slice ka5 M.keys.length kc5, .slice va5 M.values.length vc5, .slice ia5 M.kids.length ic5] 25) = W9 at *
  generalize hB12 : w8.heap.size = B12 at *
  clear hW9 A9 k8
  refine (HPUT.out.2 W9 _ _ (FV.out _ C9)).mono ?_
  rintro e w10 ⟨⟨ub, rfl, hob⟩, k10⟩
  have C10 := C9.trans (Chg.of_below k10)
  obtain ⟨ka6, kc6, va6, vc6, ia6, ic6, rfl, hob⟩ := hob
  unfold nodeV
  have A11 : Bl w10 (w10.alloc (.cells #[.bool M.leaf, .slice ka6 M.keys.length kc6, .slice va6 M.values.length vc6, .slice ia6 M.kids.length ic6] 25)) := (Bl.refl _).alloc _
  have bB : (w10.alloc (.cells #[.bool M.leaf, .slice ka6 M.keys.length kc6, .slice va6 M.values.length vc6, .slice ia6 M.kids.length ic6] 25)).heap[w10.heap.size]? = some (.cells #[.bool M.leaf, .slice ka6 M.keys.length kc6, .slice va6 M.values.length vc6, .slice ia6 M.kids.length ic6] 25 (0, 0)) := block_new _ _
  have C11 := C10.trans (Chg.of_below A11)
  have hoa := hoa.bl (k10.trans A11)
  have hob := hob.below A11
  have bA := below_keeps (k10.trans A11) bA (lt_of_block bA)
  clear c0 c1 c2 c3 d0 d1 d2 d3
  obtain ⟨a0, a1, a2, a3, -⟩ := cells4 bA
  go_wp2_with fail
  generalize hW11 : w10.alloc (.cells #[.bool M.leaf, .slice ka6 M.keys.length kc6, .slice va6 M.values.length vc6, .slice ia6 M.kids.length ic6] 25) = W11 at *
  generalize hB14 : w10.heap.size = B14 at *
  clear hW11 A11 k10
  refine (same_nodes W11 _ _ _ _ M hoa.at ⟨_, _, _, _, _, _, rfl, hob⟩).mono ?_
  rintro e w12 ⟨rfl, k12⟩
  have C12 := C11.trans (Chg.of_below k12)
  have hoa := hoa.bl k12
  have bA := below_keeps k12 bA (lt_of_block bA)
  clear a0 a1 a2 a3 hob bB
  obtain ⟨c0, c1, c2, c3, d0, d1, d2, d3⟩ := FK.out _ C12
  go_wp2_with fail
  refine (same_nodes w12 _ _ _ _ n (FO.out _ C12) (FV.out _ C12)).mono ?_
  rintro e w13 ⟨rfl, k13⟩
  have C13 := C12.trans (Chg.of_below k13)
  have hoa := hoa.bl k13
  have bA := below_keeps k13 bA (lt_of_block bA)
  clear c0 c1 c2 c3 d0 d1 d2 d3
  obtain ⟨a0, a1, a2, a3, -⟩ := cells4 bA
  go_wp2_with fail
  refine (spoilt_any w13 _ _ M hoa).mono ?_
  rintro e w14 ⟨rfl, k14⟩
  have C14 := C13.trans (k14.mono (own2 := fun j => W4.heap.size ≤ j) (fun j _ e => by omega))
  clear a0 a1 a2 a3 hoa bA
  obtain ⟨c0, c1, c2, c3, d0, d1, d2, d3⟩ := FK.out _ C14
  go_wp2_with fail
  refine (same_nodes w14 _ _ _ _ n (FO.out _ C14) (FV.out _ C14)).mono ?_
  rintro e w15 ⟨rfl, k15⟩
  have C15 := C14.trans (Chg.of_below k15)
  clear c0 c1 c2 c3 d0 d1 d2 d3
  obtain ⟨c0, c1, c2, c3, d0, d1, d2, d3⟩ := FK.out _ C15
  go_wp2_with fail
  refine (rcheck_any w15 _ _ n (FV.out _ C15) sm ln).mono ?_
  rw [HCK.out]
  rintro e w16 ⟨rfl, k16⟩
  have C16 := C15.trans (Chg.of_below k16)
  clear c0 c1 c2 c3 d0 d1 d2 d3
  clear C8 C9 C10 C11 C12 C13 C14 C15
  obtain ⟨c0, c1, c2, c3, d0, d1, d2, d3⟩ := FK.out _ C16
  go_wp2_with fail
  refine (HREM.out.1 w16 _ _ (FO.out _ C16)).mono ?_
  rintro e w17 ⟨⟨uc, rfl, hoc⟩, k17⟩
  have C17 := C16.trans (Chg.of_below k17)
  obtain ⟨ka7, kc7, va7, vc7, ia7, ic7, rfl, hoc⟩ := hoc
  unfold nodeV
  have A18 : Bl w17 (w17.alloc (.cells #[.bool N.leaf, .slice ka7 N.keys.length kc7, .slice va7 N.values.length vc7, .slice ia7 N.kids.length ic7] 25)) := (Bl.refl _).alloc _
  have bC : (w17.alloc (.cells #[.bool N.leaf, .slice ka7 N.keys.length kc7, .slice va7 N.values.length vc7, .slice ia7 N.kids.length ic7] 25)).heap[w17.heap.size]? = some (.cells #[.bool N.leaf, .slice ka7 N.keys.length kc7, .slice va7 N.values.length vc7, .slice ia7 N.kids.length ic7] 25 (0, 0)) := block_new _ _
  have C18 := C17.trans (Chg.of_below A18)
  have hoc := hoc.below A18
  clear c0 c1 c2 c3 d0 d1 d2 d3
  obtain ⟨c0, c1, c2, c3, d0, d1, d2, d3⟩ := FK.out _ C18
  go_wp2_with fail
  generalize hW18 : w17.alloc (.cells #[.bool N.leaf, .slice ka7 N.keys.length kc7, .slice va7 N.values.length vc7, .slice ia7 N.kids.length ic7] 25) = W18 at *
  generalize hB16 : w17.heap.size = B16 at *
  clear hW18 A18 k17
  refine (HREM.out.2 W18 _ _ (FV.out _ C18)).mono ?_
  rintro e w19 ⟨⟨ud, rfl, hod⟩, k19⟩
  have C19 := C18.trans (Chg.of_below k19)
  obtain ⟨ka8, kc8, va8, vc8, ia8, ic8, rfl, hod⟩ := hod
  unfold nodeV
  have A20 : Bl w19 (w19.alloc (.cells #[.bool N.leaf, .slice ka8 N.keys.length kc8, .slice va8 N.values.length vc8, .slice ia8 N.kids.length ic8] 25)) := (Bl.refl _).alloc _
  have C20 := C19.trans (Chg.of_below A20)
  have hoc := hoc.below (k19.trans A20)
  have hod := hod.below A20
  have bC := below_keeps (k19.trans A20) bC (lt_of_block bC)
  clear c0 c1 c2 c3 d0 d1 d2 d3
  obtain ⟨a0, a1, a2, a3, -⟩ := cells4 bC
  go_wp2_with fail
  generalize hW20 : w19.alloc (.cells #[.bool N.leaf, .slice ka8 N.keys.length kc8, .slice va8 N.values.length vc8, .slice ia8 N.kids.length ic8] 25) = W20 at *
  generalize hB18 : w19.heap.size = B18 at *
  clear hW20 A20 k19
  refine (same_nodes W20 _ _ _ _ N ⟨_, _, _, _, _, _, rfl, hoc⟩ ⟨_, _, _, _, _, _, rfl, hod⟩).mono ?_
  rintro e w21 ⟨rfl, k21⟩
  have C21 := C20.trans (Chg.of_below k21)
  clear a0 a1 a2 a3 hoc hod bC
  obtain ⟨c0, c1, c2, c3, d0, d1, d2, d3⟩ := FK.out _ C21
  go_wp2_with fail
  refine (same_nodes w21 _ _ _ _ n (FO.out _ C21) (FV.out _ C21)).mono ?_
  rintro e w22 ⟨rfl, k22⟩
  have C22 := C21.trans (Chg.of_below k22)
  go_wp2_with fail
  go_ret
  exact ⟨rfl, K4.chg C22 (fun i hi e => by have := LW.out; omega)⟩
end Go.Proofs.Ytjdkalimaldofaa
/-
  NodePuts: its arguments opened; the walk as the row asks for it.
-/
namespace Go.Proofs.Ytjdkalimaldofaa
open Go.RowKit Go.ChangeShapes Go.WideShapes Go.ChangeAt Go.Deep
set_option linter.unusedSimpArgs false
set_option linter.unusedVariables false
section
variable {H : Type} {enc : TypeId × Value → H} {W : World}
theorem texts_of_open2 {fuel : Nat} {v : Value} {x : DataW H × List MemPlace} (h : DataW.trod enc Try.prog W 0 (fun _ => true) true fuel 22 [v] = some x) (hz : Light (x.1.weights Try.prog 22)) :
    ∃ l : List ByteArray, TxtAt W (fun k => k < W.heap.size) v l ∧ l.length ≤ 8796093021952 ∧ ∀ s ∈ l, s.size ≤ 140737488355328 := by
  rcases open_slice Try.underlying22 h with ⟨hcs, rfl⟩ | ⟨a, len, cap, m, n, D, Pl, hcs, _, hl, hm, hmm, rfl, hall⟩
  · simp only [List.cons.injEq, and_true] at hcs
    subst hcs
    exact ⟨[], (SlAt.nil W _ 9 1 none).rd, by simp, by simp⟩
  · simp only [List.cons.injEq, and_true] at hcs
    subst hcs
    simp only [if_true] at hmm
    subst hmm
    rw [cells9] at hall
    simp only [DataW.weights, Try.underlying22, bytes9] at hz
    have hz1 : ((List.range len).map D).length * 16 ≤ reachBytes := by
      unfold Light at hz
      rw [List.all_cons, Bool.and_eq_true, decide_eq_true_eq] at hz
      have := hz.1
      exact Nat.le_trans (Nat.mul_le_mul_right 16 (Nat.le_add_right _ _)) this
    have hz2 := (light_append (show Light (DataW.weightsAll Try.prog 9 ((List.range len).map D) ++ DataW.weightsAll Try.prog 9 _) by
      unfold Light at hz ⊢
      rw [List.all_cons, Bool.and_eq_true] at hz
      exact hz.2)).1
    have hlen : len ≤ 8796093021952 := by simp only [List.length_map, List.length_range, reachBytes] at hz1; omega
    have each : ∀ i, i < len → ∃ s : ByteArray, W.cell? (a.add i) = some (.string s) ∧ s.size ≤ 140737488355328 := fun i hi => by
      obtain ⟨cs', h1, h2⟩ := hall i (by omega)
      obtain ⟨s, rfl, h3, _⟩ := DataW.trod_string Try.underlying9 h2
      obtain ⟨_, _, hc⟩ := World.cells?_some h1
      have hc0 := hc 0 (by decide)
      have hd := light_all hz2 (D i) (List.mem_map.2 ⟨i, List.mem_range.2 hi, rfl⟩)
      rw [show D i = (.lit (.string s.data.toList)) from congrArg Prod.fst h3] at hd
      have e : s.data.toList.length = s.size := by rw [Array.length_toList]; rfl
      have h5 : ([s.data.toList.length].all (fun x => decide (x ≤ reachBytes))) = true := hd
      rw [List.all_cons, List.all_nil, Bool.and_true, decide_eq_true_eq, e] at h5
      simp only [reachBytes] at h5
      refine ⟨s, ?_, by omega⟩
      obtain ⟨g, off, sp⟩ := a
      simpa [Addr.add] using hc0
    obtain ⟨f, hf⟩ := choose_lt each
    refine ⟨(List.range len).map f, ⟨by simp [tcells], some a, m, by simp, by simpa using hl, hm, fun hn => ?_⟩, by simpa using hlen, fun s hs => ?_⟩
    · have h0 : 0 < len := by simpa using hn
      have c0 := (hf 0 h0).1
      obtain ⟨g, off, sp⟩ := a
      have hsp : sp = none := by simpa [Addr.add] using World.cell?_spot c0
      subst hsp
      have hg : g < W.heap.size := by have := cell_lt c0; simpa [Addr.add] using this
      refine ⟨g, off, rfl, hg, hg, fun j u hj => ?_⟩
      have hj' : j < len := by
        rcases Nat.lt_or_ge j len with e | e
        · exact e
        · rw [List.getElem?_eq_none (by simp [tcells]; omega)] at hj; cases hj
      have := (hf j hj').1
      rw [add_lit'] at this
      rw [this, ← hj]
      simp [tcells, hj']
    · obtain ⟨i, hi, rfl⟩ := List.mem_map.1 hs
      exact (hf i (List.mem_range.1 hi)).2
set_option maxRecDepth 100000 in
theorem open_node2 {base : Nat} {v : Value} {d : DataW H} {p : List MemPlace} (hv : Value.okWide Try.prog W .any base 25 v) (h : DataW.Trod enc Try.prog W 0 (fun _ => true) true 25 v d p) (hz : Light (d.weights Try.prog 25)) :
    ∃ n : ND, NodeAt W (fun k => k < W.heap.size) v n ∧ n.Small ∧ n.Lens ∧ n.keys.length ≤ 8796093022207 ∧ ∀ k ∈ n.kids, -9223372036854775808 ≤ k ∧ k ≤ 9223372036854775807 := by
  obtain ⟨fuel, h⟩ := h
  obtain ⟨cs, rfl, hsz⟩ := okWide_struct Try.underlying25 hv
  rw [cells25] at hsz
  obtain ⟨xs, n, _, hx, hl, hlen, hf⟩ := DataW.trod_struct Try.underlying25 h
  simp only [Prod.mk.injEq] at hx
  obtain ⟨rfl, _⟩ := hx
  have hc : (Value.agg cs).cells.toList = cs.toList := rfl
  rw [hc] at hf hl
  match hcs : cs.toList, (show cs.toList.length = 4 by simpa using hsz) with
  | [c0, c1, c2, c3], _ =>
    rw [hcs] at hf
    match xs, hlen with
    | [y0, y1, y2, y3], _ =>
      have t0 : DataW.trod enc Try.prog W 0 (fun _ => true) true n 4 [c0] = some y0 := by simpa [cells4b] using hf 0 _ rfl
      have t1 : DataW.trod enc Try.prog W 0 (fun _ => true) true n 22 [c1] = some y1 := by simpa [cells22] using hf 1 _ rfl
      have t2 : DataW.trod enc Try.prog W 0 (fun _ => true) true n 22 [c2] = some y2 := by simpa [cells22] using hf 2 _ rfl
      have t3 : DataW.trod enc Try.prog W 0 (fun _ => true) true n 23 [c3] = some y3 := by simpa [cells23] using hf 3 _ rfl
      simp only [DataW.weights, Try.underlying25] at hz
      obtain ⟨_, z0⟩ := light_append hz
      obtain ⟨z1, z0⟩ := light_append z0
      obtain ⟨z2, z0⟩ := light_append z0
      obtain ⟨z3, _⟩ := light_append z0
      obtain ⟨b, h0, _⟩ := DataW.trod_bool Try.underlying4 t0
      obtain ⟨K, a1, l1, m1⟩ := texts_of_open2 t1 z1
      obtain ⟨V, a2, l2, m2⟩ := texts_of_open2 t2 z2
      obtain ⟨I, a3, l3, m3⟩ := ints_of_open t3 z3
      simp only [List.cons.injEq, and_true] at h0
      subst h0
      obtain ⟨ka, kc, rfl, _⟩ := RdAt.shape a1
      obtain ⟨va, vc, rfl, _⟩ := RdAt.shape a2
      obtain ⟨ia, ic, rfl, _⟩ := RdAt.shape a3
      refine ⟨⟨b, K, V, I⟩, ⟨ka, kc, va, vc, ia, ic, ?_, a1, a2, a3⟩, ⟨Nat.le_trans l1 (by decide), Nat.le_trans l2 (by decide), l3⟩, ⟨m1, m2⟩, Nat.le_trans l1 (by decide), m3⟩
      unfold nodeV
      congr 1
      apply Array.ext'
      rw [hcs]
end
theorem puts_gen (W : World) (v : Value) (n : ND) (h : NodeAt W (fun k => k < W.heap.size) v n ∧ n.Small ∧ n.Lens ∧ n.keys.length ≤ 8796093022207 ∧ ∀ k ∈ n.kids, -9223372036854775808 ≤ k ∧ k ≤ 9223372036854775807)
    (key : ByteArray) (h1 : key.size ≤ maxLen) (value : ByteArray) (h2 : value.size ≤ maxLen) :
    Calls Try.prog 6 #[v, .string key, .string value] W fun e w' => e = .returned (.bool true) ∧ Below W.heap.size W w' := by
  have k1 : key.size ≤ 9223372036854775807 := by unfold maxLen at h1; omega
  have k2 : value.size ≤ 9223372036854775807 := by unfold maxLen at h2; omega
  by_cases hck : n.check = 0
  · exact puts_ok W _ v n key value h.1 h.2.1 h.2.2.1 h.2.2.2.1 k1 k2 hck
  · exact puts_bad W _ v n key value h.1 h.2.1 h.2.2.1 h.2.2.2.1 k1 k2 hck
end Go.Proofs.Ytjdkalimaldofaa
