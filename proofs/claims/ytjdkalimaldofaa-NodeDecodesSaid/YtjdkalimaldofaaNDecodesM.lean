/-
  The document's read at any kind; its Decode.
-/
import Derived.Test.YtjdkalimaldofaaNRr3
import Derived.Test.YtjdkalimaldofaaNLives
import Derived.Test.YtjdkalimaldofaaNOpen
namespace Go.Proofs.Ytjdkalimaldofaa
open Go.RowKit
set_option linter.unusedSimpArgs false
set_option linter.unusedVariables false
theorem rread_any (w : World) (own : Nat → Prop) (xa : Option Addr) (xc : Nat) (xs : List Int) (hx : RdAt w own 1 (.slice xa xs.length xc) xs.length (bcells xs)) (hb : OkB xs) (h16 : 512 ≤ xs.length) (h81 : xs.length ≤ 8192) :
    Calls Try.prog 60 #[.slice xa xs.length xc] w fun e w' => ∃ v ok m, e = .returned (.tuple #[v, .bool ok]) ∧ (NodeAt w' (fun j => w.heap.size ≤ j) v m ∧ Bl w w') ∧ ((ok = true ∧ (pEnd (strOfNums xs)).r.e = 0 ∧ m = pNode (strOfNums xs)) ∨ (ok = false ∧ (pEnd (strOfNums xs)).r.e ≠ 0)) := by
  obtain ⟨hk, hn, hr⟩ := marks_at hb (by omega)
  have hin := pKeys_in (strOfNums xs)
  obtain ⟨n, hnn⟩ := Int.eq_ofNat_of_zero_le hin.1
  unfold pEnd pNode rsNode rsAny
  rw [hk, hr, hnn, show ((n : Int)).toNat = n from rfl]
  have hn' : numTo (strOfNums ((xs.drop 6).take 2)) 2 = (n : Int) := by rw [← hn, hnn]
  by_cases h1 : xs[4] = 1
  · rw [if_pos h1, decide_eq_true h1]
    exact rread_leaf w own xa xc xs hx hb h16 h81 _ n h1 hn' (by omega) rfl
  · rw [if_neg h1, decide_eq_false h1]
    exact rread_inner w own xa xc xs hx hb h16 h81 _ n h1 hn' (by omega) rfl
set_option maxRecDepth 100000 in
set_option maxHeartbeats 4000000 in
theorem rdecode_any (w : World) (own : Nat → Prop) (x : Value) (xs : List Int) (size : Nat) (hx : RdAt w own 1 x xs.length (bcells xs)) (hb : OkB xs) (hs : sizeOk size = true) (hl : xs.length = size) :
    Calls Try.prog 22 #[.int .i64 size, x] w fun e w' => (∃ u c, e = .returned (.tuple #[u, .int .i64 c]) ∧ ((pOk size xs ∧ c = 0 ∧ NodeAt w' (fun k => w.heap.size ≤ k) u (pNode (strOfNums xs))) ∨ (¬ pOk size xs ∧ c = 90 ∧ NodeAt w' (fun k => w.heap.size ≤ k) u .empty))) ∧ Bl w w' := by
  have hsz : 512 ≤ size ∧ size ≤ 4096 := by
    simp only [sizeOk, Bool.or_eq_true, decide_eq_true_eq] at hs
    omega
  obtain ⟨xa, xc, rfl, -⟩ := hx.shape
  have hx := hx.mono (own2 := fun j => own j ∧ j < w.heap.size) (fun j hj e => ⟨e, hj⟩)
  have kW : Bl w (w.alloc (.cells #[.bool false, .slice none 0 0, .slice none 0 0, .slice none 0 0] 25)) := (Bl.refl w).alloc _
  have b0 : (w.alloc (.cells #[.bool false, .slice none 0 0, .slice none 0 0, .slice none 0 0] 25)).heap[w.heap.size]? = some (.cells #[.bool false, .slice none 0 0, .slice none 0 0, .slice none 0 0] 25 (0, 0)) := block_new _ _
  have hS : (strOfNums xs).size ≤ 8192 := by rw [strOfNums_size]; omega
  have hrd := fun W (k : Bl w W) => rread_any W _ xa xc xs (hx.below k) hb (by omega) (by omega)
  have HRD := Lib.hid hrd
  have HX : Hid (∀ W, Bl w W → RdAt W (fun j => own j ∧ j < w.heap.size) 1 (.slice xa size xc) size (bcells xs)) := fun W k => by
    have := hx.below k
    rw [hl] at this
    exact this
  have HL := Lib.hid hl
  rw [hl]
  clear hx hb hrd
  have hne : ((size : Int) != (size : Int)) = false := by simp
  go_enter Try.func22, Try.ntmps22
  go_wp2_with fail
  generalize w.alloc (.cells #[.bool false, .slice none 0 0, .slice none 0 0, .slice none 0 0] 25) = w1 at *
  refine (power_any _ size).mono ?_
  rintro e w2 ⟨rfl, hw2⟩
  rw [hw2]
  clear hw2 w2
  rw [hs]
  go_wp2_with fail
  have hcall := HRD.out w1 kW
  rw [hl] at hcall
  have smN := Lib.hid (pNode_small (strOfNums xs))
  have lnN := Lib.hid (pNode_lens (strOfNums xs) hS)
  have HP : Hid (pOk size xs ↔ (pEnd (strOfNums xs)).r.e = 0 ∧ ((pNode (strOfNums xs)).check = 0 ∧ sizeOk size = true ∧ (pNode (strOfNums xs)).psize ≤ size) ∧ (pNode (strOfNums xs)).out size = xs) := Iff.rfl
  obtain ⟨N, hN⟩ : ∃ N, N = pNode (strOfNums xs) := ⟨_, rfl⟩
  obtain ⟨T, hT⟩ : ∃ T, T = pEnd (strOfNums xs) := ⟨_, rfl⟩
  rw [← hN, ← hT] at hcall
  rw [← hN] at smN lnN
  have HE := Lib.hid hN
  have HP : Hid (pOk size xs ↔ T.r.e = 0 ∧ (N.check = 0 ∧ sizeOk size = true ∧ N.psize ≤ size) ∧ N.out size = xs) := by
    rw [hN, hT]; exact HP.out
  clear hN hT hl hS HRD
  refine hcall.mono ?_
  rintro e w8 ⟨v, ok, m, rfl, ⟨hn8, k8⟩, hok⟩
  clear hcall
  obtain ⟨ka, kc, va, vc, ia, ic, rfl, hn8⟩ := hn8
  unfold nodeV
  have b8 := below_keeps k8 b0 (lt_of_block b0)
  have K8 : Bl w w8 := kW.trans k8
  have A9 : Bl w8 (w8.alloc (.cells #[.bool m.leaf, .slice ka m.keys.length kc, .slice va m.values.length vc, .slice ia m.kids.length ic] 25)) := (Bl.refl _).alloc _
  have b9 := below_keeps A9 b8 (lt_of_block b8)
  have bB9 : (w8.alloc (.cells #[.bool m.leaf, .slice ka m.keys.length kc, .slice va m.values.length vc, .slice ia m.kids.length ic] 25)).heap[w8.heap.size]? = some (.cells #[.bool m.leaf, .slice ka m.keys.length kc, .slice va m.values.length vc, .slice ia m.kids.length ic] 25 (0, 0)) := block_new _ _
  have hn9 := hn8.below A9
  have K9 := K8.trans A9
  have hM : w.heap.size < w1.heap.size := lt_of_block b0
  have hB : w.heap.size < w8.heap.size := lt_of_block b8
  have hn9 : NodeIn _ (fun j => w.heap.size < j) m ka kc va vc ia ic := hn9.mono (fun j _ hj => Nat.lt_of_lt_of_le hM hj)
  clear k8 hn8 hM b0 kW
  rcases hok with ⟨rfl, he, hm⟩ | ⟨rfl, he⟩
  · obtain rfl : N = m := hm.symm
    obtain ⟨x0, x1, x2, x3, -⟩ := cells4 bB9
    go_wp2_with fail
    clear x0 x1 x2 x3
    generalize hW9 : w8.alloc (.cells #[.bool N.leaf, .slice ka N.keys.length kc, .slice va N.values.length vc, .slice ia N.kids.length ic] 25) = w9 at *
    clear hW9
    generalize w8.heap.size = B at *
    clear hs
    by_cases hgood : N.check = 0 ∧ sizeOk size = true ∧ N.psize ≤ size
    · refine (rencode_ok w9 _ _ N size ⟨_, _, _, _, _, _, rfl, hn9⟩ smN.out lnN.out hgood.1 hgood.2.1 hgood.2.2).mono ?_
      rintro e w10 ⟨⟨q, rfl, hq⟩, k10⟩
      obtain ⟨qa, qc, rfl, -⟩ := hq.shape
      have hol : (N.out size).length = size := by have := hq.1; simpa using this
      have b10 := below_keeps k10 b9 (lt_of_block b9)
      have bB10 := below_keeps k10 bB9 (lt_of_block bB9)
      have hn10 := hn9.below k10
      have K10 := K9.trans k10
      have HG := Lib.hid hgood
      have HE0 := Lib.hid he
      have hxX := HX.out _ K10
      obtain ⟨g, off, rfl, _, hg, hc⟩ := hq.get (by omega)
      obtain ⟨g2, off2, rfl, _, hg2, hc2⟩ := hxX.get (by omega)
      have hlx := HL.out
      have HCC : Hid (∀ i (hi : i < size), w10.cell? ⟨g, off + i, none⟩ = some (.int .u8 ((N.out size)[i]'(by omega)))) := fun i hi => hc i _ (bcells_get (by omega))
      have HCD : Hid (∀ i (hi : i < size), w10.cell? ⟨g2, off2 + i, none⟩ = some (.int .u8 (xs[i]'(by omega)))) := fun i hi => hc2 i _ (bcells_get (by omega))
      have HOL := Lib.hid hol
      clear b9 bB9 hn9 K9 k10 A9 hgood he hq hxX hc hc2 hx HX
      go_wp2_with fail
      go_loopw [10] (fun i wr => ∃ k : Nat, k ≤ size ∧ i = .int .i64 k ∧ (N.out size).take k = xs.take k ∧ Bl w10 wr) (fun i _ => size - (intOf i).toNat)
      case atStart => exact ⟨0, by omega, rfl, by simp, Bl.refl _⟩
      case round =>
        obtain ⟨k, hk, rfl, htk, kwr⟩ := hrel
        have i0 : (0 : Int) ≤ (k : Int) := by omega
        have b11 := below_keeps kwr b10 (lt_of_block b10)
        have bB11 := below_keeps kwr bB10 (lt_of_block bB10)
        obtain ⟨y0, y1, y2, y3, f0, f1, f2, f3⟩ := cells4 b11
        obtain ⟨x0, x1, x2, x3, -⟩ := cells4 bB11
        by_cases hlt : k < size
        · have i1 : (k : Int) < (size : Int) := by omega
          have hlt1 : k < (N.out size).length := by have := HOL.out; omega
          have hlt2 : k < xs.length := by have := HL.out; omega
          have c1 := (kwr.cell (p := ⟨g, off + k, none⟩) hg).trans (HCC.out k hlt)
          have c2 := (kwr.cell (p := ⟨g2, off2 + k, none⟩) hg2).trans (HCD.out k hlt)
          by_cases hv : (N.out size)[k] = xs[k]
          · have hvb : ((N.out size)[k] != xs[k]) = false := by simp [hv]
            have hts := take_step htk hlt1 hlt2 hv
            clear hv
            go_wp2
            go_region
            all_goals go_wp2
            all_goals go_roundw
            all_goals first | (case rel => exact ⟨k + 1, by omega, by go_num, hts, kwr.drew⟩) | (case measure => simp [intOf]; omega)
          · have hvb : ((N.out size)[k] != xs[k]) = true := by simpa using hv
            have hno : ¬ pOk size xs := fun c => hv (by
              have h1 := (HP.out.1 c).2.2
              simp only [h1])
            go_wp2
            go_region
            all_goals go_wp2
            all_goals
              have hc4 := (chg4 (Bl.refl wr) w.heap.size (.bool false) (.slice none 0 0) (.slice none 0 0) (.slice none 0 0)).drew
              refine bodyPost_ret (v := .tuple #[.agg #[.bool false, .slice none 0 0, .slice none 0 0, .slice none 0 0], .int .i64 90]) (by simp [results, Try.results22, go_sem, *]) rfl ?_
              exact ⟨⟨_, _, rfl, Or.inr ⟨hno, rfl, NodeAt.empty _ _⟩⟩, (K10.trans kwr).chg hc4 (fun i hi e => by omega)⟩
        · obtain rfl : k = size := by omega
          have hyes : pOk k xs := HP.out.2 ⟨HE0.out, HG.out, eq_of_take (by rw [HOL.out, HL.out]) (by rw [HOL.out]; exact htk)⟩
          go_wp2_with fail
          have hc4 := chg4 (Bl.refl wr) w.heap.size (.bool N.leaf) (.slice ka N.keys.length kc) (.slice va N.values.length vc) (.slice ia N.kids.length ic)
          refine bodyPost_ret (v := .tuple #[.agg #[.bool N.leaf, .slice ka N.keys.length kc, .slice va N.values.length vc, .slice ia N.kids.length ic], .int .i64 0]) (by simp [results, Try.results22, go_sem, *]) rfl ?_
          refine ⟨⟨_, _, rfl, Or.inl ⟨hyes, rfl, ?_⟩⟩, (K10.trans kwr).chg hc4 (fun i hi e => by omega)⟩
          rw [← HE.out]
          exact ⟨_, _, _, _, _, _, rfl, ((hn10.below kwr).chg hc4 (fun j hj e => by omega)).mono (fun j _ hj => Nat.le_of_lt hj)⟩
    · have hno : ¬ pOk size xs := fun c => hgood (HP.out.1 c).2.1
      have hne2 : (encErr N size != 0) = true := by simpa using encErr_ne N size
      refine (rencode_err w9 _ _ N size (by omega) (by omega) ⟨_, _, _, _, _, _, rfl, hn9⟩ smN.out lnN.out hgood).mono ?_
      rintro e w10 ⟨rfl, k10⟩
      have b10 := below_keeps k10 b9 (lt_of_block b9)
      have K10 := K9.trans k10
      clear b9 bB9 hn9 K9 k10 A9 hgood he
      obtain ⟨y0, y1, y2, y3, f0, f1, f2, f3⟩ := cells4 b10
      go_wp2_with fail
      have hc4 := chg4 (Bl.refl w10) w.heap.size (.bool false) (.slice none 0 0) (.slice none 0 0) (.slice none 0 0)
      refine bodyPost_ret (v := .tuple #[.agg #[.bool false, .slice none 0 0, .slice none 0 0, .slice none 0 0], .int .i64 90]) (by simp [results, Try.results22, go_sem, *]) rfl ?_
      exact ⟨⟨_, _, rfl, Or.inr ⟨hno, rfl, NodeAt.empty _ _⟩⟩, K10.chg hc4 (fun i hi e => by omega)⟩
  · have hno : ¬ pOk size xs := fun c => he (HP.out.1 c).1
    obtain ⟨y0, y1, y2, y3, f0, f1, f2, f3⟩ := cells4 b8
    clear b9 bB9 hn9 A9
    go_wp2_with fail
    have hc4 := (chg4 (Bl.refl w8) w.heap.size (.bool false) (.slice none 0 0) (.slice none 0 0) (.slice none 0 0)).alloc (.cells #[.bool m.leaf, .slice ka m.keys.length kc, .slice va m.values.length vc, .slice ia m.kids.length ic] 25)
    refine bodyPost_ret (v := .tuple #[.agg #[.bool false, .slice none 0 0, .slice none 0 0, .slice none 0 0], .int .i64 90]) (by simp [results, Try.results22, go_sem, *]) rfl ?_
    exact ⟨⟨_, _, rfl, Or.inr ⟨hno, rfl, NodeAt.empty _ _⟩⟩, K8.chg hc4 (fun i hi e => by omega)⟩
end Go.Proofs.Ytjdkalimaldofaa
/-
  Both Decodes at any size and any bytes.
-/
namespace Go.Proofs.Ytjdkalimaldofaa
open Go.RowKit
set_option linter.unusedSimpArgs false
set_option linter.unusedVariables false
/-- the bytes are a node's at that size -/
def Good (size : Int) (xs : List Int) : Prop := sizeOk size = true ∧ (xs.length : Int) = size ∧ pOk xs.length xs
def decC (size : Int) : Int := if sizeOk size then 90 else 1
def DecTells (w : World) (size : Int) (xs : List Int) (e : Ending) (w' : World) : Prop :=
  ∃ u c, e = .returned (.tuple #[u, .int .i64 c]) ∧ ((Good size xs ∧ c = 0 ∧ NodeAt w' (fun k => w.heap.size ≤ k) u (pNode (strOfNums xs))) ∨ (¬ Good size xs ∧ c = decC size ∧ NodeAt w' (fun k => w.heap.size ≤ k) u .empty))
theorem tells_of {w w' : World} {size : Nat} {xs : List Int} {e : Ending} (hs : sizeOk size = true) (hl : xs.length = size)
    (h : (∃ u c, e = .returned (.tuple #[u, .int .i64 c]) ∧ ((pOk size xs ∧ c = 0 ∧ NodeAt w' (fun k => w.heap.size ≤ k) u (pNode (strOfNums xs))) ∨ (¬ pOk size xs ∧ c = 90 ∧ NodeAt w' (fun k => w.heap.size ≤ k) u .empty)))) : DecTells w size xs e w' := by
  subst hl
  obtain ⟨u, c, rfl, q⟩ := h
  refine ⟨u, c, rfl, ?_⟩
  rcases q with ⟨q1, q2, q3⟩ | ⟨q1, q2, q3⟩
  · exact Or.inl ⟨⟨hs, rfl, q1⟩, q2, q3⟩
  · exact Or.inr ⟨fun c => q1 c.2.2, by rw [decC, if_pos hs]; exact q2, q3⟩
set_option maxRecDepth 100000 in
set_option maxHeartbeats 1000000 in
theorem decode_gen (w : World) (own : Nat → Prop) (x : Value) (xs : List Int) (size : Int) (hs0 : -9223372036854775808 ≤ size) (hs1 : size ≤ 9223372036854775807) (hx : RdAt w own 1 x xs.length (bcells xs)) :
    Calls Try.prog 21 #[.int .i64 size, x] w fun e w' => DecTells w size xs e w' ∧ Bl w w' := by
  by_cases hs : sizeOk size = true
  · by_cases hl : (xs.length : Int) = size
    · subst hl
      exact (decode_any w own x xs xs.length hx hs rfl).mono (fun e w' q => ⟨tells_of hs rfl q.1, q.2⟩)
    · obtain ⟨xa, xc, rfl, -⟩ := hx.shape
      have hne : ((xs.length : Int) != size) = true := by simpa using hl
      have hno : ¬ Good size xs := fun c => hl c.2.1
      have hcc : (90 : Int) = decC size := by rw [decC, if_pos hs]
      have kW : Bl w (w.alloc (.cells #[.bool false, .slice none 0 0, .slice none 0 0, .slice none 0 0] 25)) := (Bl.refl w).alloc _
      have b0 : (w.alloc (.cells #[.bool false, .slice none 0 0, .slice none 0 0, .slice none 0 0] 25)).heap[w.heap.size]? = some (.cells #[.bool false, .slice none 0 0, .slice none 0 0, .slice none 0 0] 25 (0, 0)) := block_new _ _
      have HCC := Lib.hid hcc
      clear hx hl hcc
      go_enter Try.func21, Try.ntmps21
      go_wp2_with fail
      generalize w.alloc (.cells #[.bool false, .slice none 0 0, .slice none 0 0, .slice none 0 0] 25) = w1 at *
      refine (sizeright_any _ size hs0 hs1).mono ?_
      rintro e w2 ⟨rfl, hw2⟩
      rw [hw2]
      clear hw2 w2
      rw [hs]
      obtain ⟨y0, y1, y2, y3, f0, f1, f2, f3⟩ := cells4 b0
      go_wp2_with fail
      have hc4 := chg4 (Bl.refl w1) w.heap.size (.bool false) (.slice none 0 0) (.slice none 0 0) (.slice none 0 0)
      refine bodyPost_ret (v := .tuple #[.agg #[.bool false, .slice none 0 0, .slice none 0 0, .slice none 0 0], .int .i64 90]) (by simp [results, Try.results21, go_sem, *]) rfl ?_
      exact ⟨⟨_, _, rfl, Or.inr ⟨hno, HCC.out, NodeAt.empty _ _⟩⟩, kW.chg hc4 (fun i hi e => by omega)⟩
  · have hsb : sizeOk size = false := by simpa using hs
    obtain ⟨xa, xc, rfl, -⟩ := hx.shape
    have hno : ¬ Good size xs := fun c => hs c.1
    have hcc : (1 : Int) = decC size := by rw [decC, if_neg hs]
    have kW : Bl w (w.alloc (.cells #[.bool false, .slice none 0 0, .slice none 0 0, .slice none 0 0] 25)) := (Bl.refl w).alloc _
    have b0 : (w.alloc (.cells #[.bool false, .slice none 0 0, .slice none 0 0, .slice none 0 0] 25)).heap[w.heap.size]? = some (.cells #[.bool false, .slice none 0 0, .slice none 0 0, .slice none 0 0] 25 (0, 0)) := block_new _ _
    have HCC := Lib.hid hcc
    clear hx hcc hs
    go_enter Try.func21, Try.ntmps21
    go_wp2_with fail
    generalize w.alloc (.cells #[.bool false, .slice none 0 0, .slice none 0 0, .slice none 0 0] 25) = w1 at *
    refine (sizeright_any _ size hs0 hs1).mono ?_
    rintro e w2 ⟨rfl, hw2⟩
    rw [hw2]
    clear hw2 w2
    rw [hsb]
    obtain ⟨y0, y1, y2, y3, f0, f1, f2, f3⟩ := cells4 b0
    go_wp2_with fail
    have hc4 := chg4 (Bl.refl w1) w.heap.size (.bool false) (.slice none 0 0) (.slice none 0 0) (.slice none 0 0)
    refine bodyPost_ret (v := .tuple #[.agg #[.bool false, .slice none 0 0, .slice none 0 0, .slice none 0 0], .int .i64 1]) (by simp [results, Try.results21, go_sem, *]) rfl ?_
    exact ⟨⟨_, _, rfl, Or.inr ⟨hno, HCC.out, NodeAt.empty _ _⟩⟩, kW.chg hc4 (fun i hi e => by omega)⟩
set_option maxRecDepth 100000 in
set_option maxHeartbeats 1000000 in
theorem rdecode_gen (w : World) (own : Nat → Prop) (x : Value) (xs : List Int) (size : Int) (hx : RdAt w own 1 x xs.length (bcells xs)) (hb : OkB xs) :
    Calls Try.prog 22 #[.int .i64 size, x] w fun e w' => DecTells w size xs e w' ∧ Bl w w' := by
  by_cases hs : sizeOk size = true
  · by_cases hl : (xs.length : Int) = size
    · subst hl
      exact (rdecode_any w own x xs xs.length hx hb hs rfl).mono (fun e w' q => ⟨tells_of hs rfl q.1, q.2⟩)
    · obtain ⟨xa, xc, rfl, -⟩ := hx.shape
      have hne : ((xs.length : Int) != size) = true := by simpa using hl
      have hno : ¬ Good size xs := fun c => hl c.2.1
      have hcc : (90 : Int) = decC size := by rw [decC, if_pos hs]
      have kW : Bl w (w.alloc (.cells #[.bool false, .slice none 0 0, .slice none 0 0, .slice none 0 0] 25)) := (Bl.refl w).alloc _
      have b0 : (w.alloc (.cells #[.bool false, .slice none 0 0, .slice none 0 0, .slice none 0 0] 25)).heap[w.heap.size]? = some (.cells #[.bool false, .slice none 0 0, .slice none 0 0, .slice none 0 0] 25 (0, 0)) := block_new _ _
      have HCC := Lib.hid hcc
      clear hx hl hcc
      go_enter Try.func22, Try.ntmps22
      go_wp2_with fail
      generalize w.alloc (.cells #[.bool false, .slice none 0 0, .slice none 0 0, .slice none 0 0] 25) = w1 at *
      refine (power_any _ size).mono ?_
      rintro e w2 ⟨rfl, hw2⟩
      rw [hw2]
      clear hw2 w2
      rw [hs]
      obtain ⟨y0, y1, y2, y3, f0, f1, f2, f3⟩ := cells4 b0
      go_wp2_with fail
      have hc4 := chg4 (Bl.refl w1) w.heap.size (.bool false) (.slice none 0 0) (.slice none 0 0) (.slice none 0 0)
      refine bodyPost_ret (v := .tuple #[.agg #[.bool false, .slice none 0 0, .slice none 0 0, .slice none 0 0], .int .i64 90]) (by simp [results, Try.results22, go_sem, *]) rfl ?_
      exact ⟨⟨_, _, rfl, Or.inr ⟨hno, HCC.out, NodeAt.empty _ _⟩⟩, kW.chg hc4 (fun i hi e => by omega)⟩
  · have hsb : sizeOk size = false := by simpa using hs
    obtain ⟨xa, xc, rfl, -⟩ := hx.shape
    have hno : ¬ Good size xs := fun c => hs c.1
    have hcc : (1 : Int) = decC size := by rw [decC, if_neg hs]
    have kW : Bl w (w.alloc (.cells #[.bool false, .slice none 0 0, .slice none 0 0, .slice none 0 0] 25)) := (Bl.refl w).alloc _
    have b0 : (w.alloc (.cells #[.bool false, .slice none 0 0, .slice none 0 0, .slice none 0 0] 25)).heap[w.heap.size]? = some (.cells #[.bool false, .slice none 0 0, .slice none 0 0, .slice none 0 0] 25 (0, 0)) := block_new _ _
    have HCC := Lib.hid hcc
    clear hx hcc hs
    go_enter Try.func22, Try.ntmps22
    go_wp2_with fail
    generalize w.alloc (.cells #[.bool false, .slice none 0 0, .slice none 0 0, .slice none 0 0] 25) = w1 at *
    refine (power_any _ size).mono ?_
    rintro e w2 ⟨rfl, hw2⟩
    rw [hw2]
    clear hw2 w2
    rw [hsb]
    obtain ⟨y0, y1, y2, y3, f0, f1, f2, f3⟩ := cells4 b0
    go_wp2_with fail
    have hc4 := chg4 (Bl.refl w1) w.heap.size (.bool false) (.slice none 0 0) (.slice none 0 0) (.slice none 0 0)
    refine bodyPost_ret (v := .tuple #[.agg #[.bool false, .slice none 0 0, .slice none 0 0, .slice none 0 0], .int .i64 1]) (by simp [results, Try.results22, go_sem, *]) rfl ?_
    exact ⟨⟨_, _, rfl, Or.inr ⟨hno, HCC.out, NodeAt.empty _ _⟩⟩, kW.chg hc4 (fun i hi e => by omega)⟩
end Go.Proofs.Ytjdkalimaldofaa
/-
  NodeDecodes: the walk.
-/
namespace Go.Proofs.Ytjdkalimaldofaa
open Go.RowKit
set_option linter.unusedSimpArgs false
set_option linter.unusedVariables false
theorem decC_ne (size : Int) : decC size ≠ 0 := by
  unfold decC
  split <;> decide
set_option maxRecDepth 100000 in
set_option maxHeartbeats 4000000 in
theorem decodes_any (w : World) (own : Nat → Prop) (x : Value) (xs : List Int) (size : Int) (hs0 : -9223372036854775808 ≤ size) (hs1 : size ≤ 9223372036854775807) (hx : RdAt w own 1 x xs.length (bcells xs)) (hb : OkB xs) (hlen : xs.length ≤ 140737488355328) :
    Calls Try.prog 5 #[.int .i64 size, x] w fun e w' => e = .returned (.bool true) ∧ Bl w w' := by
  obtain ⟨i5, hi5, hz0, hz1, hz2⟩ := info_parts info5
  have HTELL : ∃ (M : ND) (C : Int), ((C = 0 ∧ Good size xs ∧ M = pNode (strOfNums xs)) ∨ (C ≠ 0 ∧ ¬ Good size xs ∧ M = .empty)) ∧ ∀ w e w', DecTells w size xs e w' → ∃ u, e = .returned (.tuple #[u, .int .i64 C]) ∧ NodeAt w' (fun k => w.heap.size ≤ k) u M := by
    by_cases hg : Good size xs
    · refine ⟨_, 0, Or.inl ⟨rfl, hg, rfl⟩, fun w e w' h => ?_⟩
      obtain ⟨u, c, rfl, q⟩ := h
      rcases q with ⟨_, rfl, q⟩ | ⟨q, _⟩
      · exact ⟨u, rfl, q⟩
      · exact absurd hg q
    · refine ⟨_, decC size, Or.inr ⟨decC_ne size, hg, rfl⟩, fun w e w' h => ?_⟩
      obtain ⟨u, c, rfl, q⟩ := h
      rcases q with ⟨q, _⟩ | ⟨_, rfl, q⟩
      · exact absurd q hg
      · exact ⟨u, rfl, q⟩
  obtain ⟨M, C, hMC, htell⟩ := HTELL
  have HD : Hid (∀ W own x, RdAt W own 1 x xs.length (bcells xs) → Calls Try.prog 21 #[.int .i64 size, x] W fun e w' => (∃ u, e = .returned (.tuple #[u, .int .i64 C]) ∧ NodeAt w' (fun k => W.heap.size ≤ k) u M) ∧ Bl W w') := fun W own x h => (decode_gen W own x xs size hs0 hs1 h).mono (fun e w' q => ⟨htell _ _ _ q.1, q.2⟩)
  have HR : Hid (∀ W own x, RdAt W own 1 x xs.length (bcells xs) → Calls Try.prog 22 #[.int .i64 size, x] W fun e w' => (∃ u, e = .returned (.tuple #[u, .int .i64 C]) ∧ NodeAt w' (fun k => W.heap.size ≤ k) u M) ∧ Bl W w') := fun W own x h => (rdecode_gen W own x xs size h hb).mono (fun e w' q => ⟨htell _ _ _ q.1, q.2⟩)
  have HMC := Lib.hid hMC
  have HB := Lib.hid hb
  obtain ⟨xa, xc, rfl, hxm⟩ := hx.shape
  unfold maxLen at hxm
  have HX : Hid (∀ W, Bl w W → RdAt W own 1 (.slice xa xs.length xc) xs.length (bcells xs)) := fun W k => hx.below k
  clear htell hMC hx hb
  go_enter Try.func5, Try.ntmps5
  go_wp2_with (at_builtin; refine wpList_append_sl rfl (.tmp 11) (.tmp 12) 36 rfl 5 i5 (.int .u8 0) 1 1 Try.underlying36 hi5 hz0 hz1 hz2 rfl (fun _ => False) _ 0 [] rfl (SlAt.nil _ _ _ _ _) own _ xs.length (bcells xs) rfl (HX.out _ ((Bl.refl w).alloc _)) (bcells_one _) ?_ ?_ ?_; (unfold maxLen; omega); omega; intro v2 w2 hs2 hc2; rw [Nat.zero_add, List.nil_append] at hs2; obtain ⟨a2, cap2, rfl⟩ := hs2.shape)
  have K2 : Bl w w2 := ((Bl.refl w).alloc _).chg hc2 (fun i hi e => e)
  have hO := hs2.rd
  clear hs2 hc2
  refine (HD.out w2 _ _ hO).mono ?_
  rintro e w3 ⟨⟨u, rfl, hu⟩, k3⟩
  obtain ⟨ka, kc, va, vc, ia, ic, rfl, hu⟩ := hu
  unfold nodeV
  have A3 : Bl w3 (w3.alloc (.cells #[.bool M.leaf, .slice ka M.keys.length kc, .slice va M.values.length vc, .slice ia M.kids.length ic] 25)) := (Bl.refl _).alloc _
  have b6 : (w3.alloc (.cells #[.bool M.leaf, .slice ka M.keys.length kc, .slice va M.values.length vc, .slice ia M.kids.length ic] 25)).heap[w3.heap.size]? = some (.cells #[.bool M.leaf, .slice ka M.keys.length kc, .slice va M.values.length vc, .slice ia M.kids.length ic] 25 (0, 0)) := block_new _ _
  have K4 := (K2.trans k3).trans A3
  have hu4 := hu.below A3
  have hO4 := hO.below (k3.trans A3)
  clear hu hO
  go_wp2_with fail
  generalize hW4 : w3.alloc (.cells #[.bool M.leaf, .slice ka M.keys.length kc, .slice va M.values.length vc, .slice ia M.kids.length ic] 25) = W4 at *
  generalize hB6 : w3.heap.size = B6 at *
  clear hW4 hB6 A3 k3 K2
  refine (HR.out W4 _ _ (HX.out _ K4)).mono ?_
  rintro e w5 ⟨⟨u, rfl, hu⟩, k5⟩
  obtain ⟨ka2, kc2, va2, vc2, ia2, ic2, rfl, hu⟩ := hu
  unfold nodeV
  have A5 : Bl w5 (w5.alloc (.cells #[.bool M.leaf, .slice ka2 M.keys.length kc2, .slice va2 M.values.length vc2, .slice ia2 M.kids.length ic2] 25)) := (Bl.refl _).alloc _
  have b8 : (w5.alloc (.cells #[.bool M.leaf, .slice ka2 M.keys.length kc2, .slice va2 M.values.length vc2, .slice ia2 M.kids.length ic2] 25)).heap[w5.heap.size]? = some (.cells #[.bool M.leaf, .slice ka2 M.keys.length kc2, .slice va2 M.values.length vc2, .slice ia2 M.kids.length ic2] 25 (0, 0)) := block_new _ _
  have b6' := below_keeps (k5.trans A5) b6 (lt_of_block b6)
  have K6 := (K4.trans k5).trans A5
  have hu6 := hu4.below (k5.trans A5)
  have hv6 := hu.below A5
  have hO6 := hO4.below (k5.trans A5)
  clear hu hu4 hO4 b6
  go_wp2_with fail
  generalize hW6 : w5.alloc (.cells #[.bool M.leaf, .slice ka2 M.keys.length kc2, .slice va2 M.values.length vc2, .slice ia2 M.kids.length ic2] 25) = W6 at *
  generalize hB8 : w5.heap.size = B8 at *
  clear hW6 hB8 A5 k5 K4
  have FK : Hid (∀ w', Bl W6 w' → w'.cell? ⟨B6, 0, none⟩ = some (.bool M.leaf) ∧ w'.cell? ⟨B6, 1, none⟩ = some (.slice ka M.keys.length kc) ∧ w'.cell? ⟨B6, 2, none⟩ = some (.slice va M.values.length vc) ∧ w'.cell? ⟨B6, 3, none⟩ = some (.slice ia M.kids.length ic) ∧ w'.cell? ⟨B8, 0, none⟩ = some (.bool M.leaf) ∧ w'.cell? ⟨B8, 1, none⟩ = some (.slice ka2 M.keys.length kc2) ∧ w'.cell? ⟨B8, 2, none⟩ = some (.slice va2 M.values.length vc2) ∧ w'.cell? ⟨B8, 3, none⟩ = some (.slice ia2 M.kids.length ic2)) := fun w' kk => by
    have q1 := cells4 (below_keeps kk b6' (lt_of_block b6'))
    have q2 := cells4 (below_keeps kk b8 (lt_of_block b8))
    exact ⟨q1.1, q1.2.1, q1.2.2.1, q1.2.2.2.1, q2.1, q2.2.1, q2.2.2.1, q2.2.2.2.1⟩
  have FU : Hid (∀ w', Bl W6 w' → NodeAt w' (fun k => w2.heap.size ≤ k) (.agg #[.bool M.leaf, .slice ka M.keys.length kc, .slice va M.values.length vc, .slice ia M.kids.length ic]) M) := fun w' kk => NodeAt.bl ⟨_, _, _, _, _, _, rfl, hu6⟩ kk
  have FV : Hid (∀ w', Bl W6 w' → NodeAt w' (fun k => W4.heap.size ≤ k) (.agg #[.bool M.leaf, .slice ka2 M.keys.length kc2, .slice va2 M.values.length vc2, .slice ia2 M.kids.length ic2]) M) := fun w' kk => NodeAt.bl ⟨_, _, _, _, _, _, rfl, hv6⟩ kk
  have FO := Lib.hid (fun w' (kk : Bl W6 w') => hO6.below kk)
  have hcc : (C != C) = false := by simp
  clear hu6 hv6 hO6 b6' b8
  refine (lives_any _).mono ?_
  rintro e w7 ⟨rfl, k7⟩
  obtain ⟨c0, c1, c2, c3, d0, d1, d2, d3⟩ := FK.out _ k7
  go_wp2_with fail
  refine (same_nodes _ _ _ _ _ M (FU.out _ k7) (FV.out _ k7)).mono ?_
  rintro e w8 ⟨rfl, k8⟩
  clear c0 c1 c2 c3 d0 d1 d2 d3
  go_wp2_with fail
  refine (samebytes_any _ _ _ _ _ xs.length xs (FO.out _ (k7.trans k8)) (HX.out _ (K6.trans (k7.trans k8)))).mono ?_
  rintro e w9 ⟨rfl, k9⟩
  have K9 : Bl W6 w9 := (k7.trans k8).trans k9
  clear k7 k8 k9
  rcases HMC.out with ⟨hC, hG, hM⟩ | ⟨hC, _, _⟩
  · subst hC
    clear HMC
    obtain ⟨c0, c1, c2, c3, -⟩ := FK.out _ K9
    have hu9 := FU.out _ K9
    have henc : Calls Try.prog 16 #[.int .i64 size, .agg #[.bool M.leaf, .slice ka M.keys.length kc, .slice va M.values.length vc, .slice ia M.kids.length ic]] w9 fun e w' => (∃ x, e = .returned (.tuple #[x, .int .i64 0]) ∧ RdAt w' (fun k => w9.heap.size ≤ k) 1 x xs.length (bcells xs)) ∧ Bl w9 w' := by
      obtain ⟨hs, hl, hp⟩ := hG
      obtain ⟨_, hg, ho⟩ := hp
      rw [← hM] at hg ho
      have smM : M.Small := by rw [hM]; exact pNode_small _
      have lnM : M.Lens := by
        rw [hM]
        refine pNode_lens _ ?_
        rw [strOfNums_size]
        simp only [sizeOk, Bool.or_eq_true, decide_eq_true_eq] at hs
        omega
      have := encode_ok w9 _ _ M xs.length hu9 smM lnM hg.1 (by rw [hl]; exact hs) hg.2.2
      rw [ho, hl] at this
      exact this
    clear hG hM
    go_wp2_with fail
    refine henc.mono ?_
    rintro e w10 ⟨⟨q, rfl, hq⟩, k10⟩
    obtain ⟨qa, qc, rfl, -⟩ := hq.shape
    go_wp2_with fail
    refine (samebytes_any _ _ _ _ _ xs.length xs hq (HX.out _ (K6.trans (K9.trans k10)))).mono ?_
    rintro e w11 ⟨rfl, k11⟩
    go_wp2_with fail
    go_ret
    exact ⟨rfl, K6.trans ((K9.trans k10).trans k11)⟩
  · have hCb : (C != 0) = true := by simpa using hC
    go_wp2_with fail
    go_ret
    exact ⟨rfl, K6.trans K9⟩
end Go.Proofs.Ytjdkalimaldofaa
/-
  NodeDecodes: bytes as an argument, opened; the walk as the row asks for it.
-/
namespace Go.Proofs.Ytjdkalimaldofaa
open Go.RowKit Go.ChangeShapes Go.WideShapes Go.ChangeAt Go.Deep
set_option linter.unusedSimpArgs false
set_option linter.unusedVariables false
section
variable {H : Type} {enc : TypeId × Value → H} {W : World}
theorem cells5 : Try.prog.cellsOf 5 = 1 := by kernel_rfl
theorem bytes5 : Try.prog.bytesOf 5 = 1 := by kernel_rfl
set_option maxRecDepth 100000 in
theorem bytes_of_open {fuel : Nat} {v : Value} {x : DataW H × List MemPlace} (h : DataW.trod enc Try.prog W 0 (fun _ => true) true fuel 36 [v] = some x) (hz : Light (x.1.weights Try.prog 36)) :
    ∃ l : List Int, RdAt W (fun k => k < W.heap.size) 1 v l.length (bcells l) ∧ l.length ≤ 140737488355328 ∧ OkB l := by
  rcases open_slice Try.underlying36 h with ⟨hcs, rfl⟩ | ⟨a, len, cap, m, n, D, Pl, hcs, _, hl, hm, hmm, rfl, hall⟩
  · simp only [List.cons.injEq, and_true] at hcs
    subst hcs
    exact ⟨[], (SlAt.nil W _ 5 1 none).rd, by simp, fun x hx => by cases hx⟩
  · simp only [List.cons.injEq, and_true] at hcs
    subst hcs
    simp only [if_true] at hmm
    subst hmm
    rw [cells5] at hall
    simp only [DataW.weights, Try.underlying36, bytes5] at hz
    have hz1 : ((List.range len).map D).length * 1 ≤ reachBytes := by
      unfold Light at hz
      rw [List.all_cons, Bool.and_eq_true, decide_eq_true_eq] at hz
      have := hz.1
      exact Nat.le_trans (Nat.mul_le_mul_right 1 (Nat.le_add_right _ _)) this
    have hlen : len ≤ 140737488355328 := by simp only [List.length_map, List.length_range, reachBytes] at hz1; omega
    have each : ∀ i, i < len → ∃ s : Int, W.cell? (a.add i) = some (.int .u8 s) ∧ 0 ≤ s ∧ s ≤ 255 := fun i hi => by
      obtain ⟨cs', h1, h2⟩ := hall i (by omega)
      obtain ⟨s, rfl, _, hw⟩ := DataW.trod_int Try.underlying5 h2
      obtain ⟨_, _, hc⟩ := World.cells?_some h1
      have hc0 := hc 0 (by decide)
      simp [Lit.wf, IntKind.min, IntKind.max, IntKind.bits, IntKind.signed] at hw
      refine ⟨s, ?_, by omega⟩
      obtain ⟨g, off, sp⟩ := a
      simpa [Addr.add] using hc0
    obtain ⟨f, hf⟩ := choose_lt each
    refine ⟨(List.range len).map f, ⟨by simp [bcells], some a, m, by simp, by simpa using hl, hm, fun hn => ?_⟩, by simpa using hlen, fun s hs => ?_⟩
    · have h0 : 0 < len := by simpa using hn
      have c0 := (hf 0 h0).1
      obtain ⟨g, off, sp⟩ := a
      have hsp : sp = none := by simpa [Addr.add] using World.cell?_spot c0
      subst hsp
      have hg : g < W.heap.size := by have := cell_lt c0; simpa [Addr.add] using this
      refine ⟨g, off, rfl, hg, hg, fun j u hj => ?_⟩
      have hj' : j < len := by
        rcases Nat.lt_or_ge j len with e | e
        · exact e
        · rw [List.getElem?_eq_none (by simp [bcells]; omega)] at hj; cases hj
      have := (hf j hj').1
      rw [add_lit'] at this
      rw [this, ← hj]
      simp [bcells, hj']
    · obtain ⟨i, hi, rfl⟩ := List.mem_map.1 hs
      exact (hf i (List.mem_range.1 hi)).2
set_option maxRecDepth 100000 in
theorem open_bytes {base : Nat} {v : Value} {d : DataW H} {p : List MemPlace} (hv : Value.okWide Try.prog W .any base 36 v) (h : DataW.Trod enc Try.prog W 0 (fun _ => true) true 36 v d p) (hz : Light (d.weights Try.prog 36)) :
    ∃ l : List Int, RdAt W (fun k => k < W.heap.size) 1 v l.length (bcells l) ∧ l.length ≤ 140737488355328 ∧ OkB l := by
  obtain ⟨fuel, h⟩ := h
  obtain ⟨a, len, cap, rfl⟩ := okWide_slice Try.underlying36 hv
  exact bytes_of_open h hz
end
theorem decodes_gen (W : World) (size : Int) (hw : (Lit.int .i64 size).wf = true) (v : Value) (l : List Int) (h : RdAt W (fun k => k < W.heap.size) 1 v l.length (bcells l) ∧ l.length ≤ 140737488355328 ∧ OkB l) :
    Calls Try.prog 5 #[.int .i64 size, v] W fun e w' => e = .returned (.bool true) ∧ Below W.heap.size W w' := by
  have hs : -9223372036854775808 ≤ size ∧ size ≤ 9223372036854775807 := by
    rw [Lit.wf, Bool.and_eq_true, decide_eq_true_eq, decide_eq_true_eq] at hw
    exact hw
  exact decodes_any W _ v l size hs.1 hs.2 h.1 h.2.2 h.2.1
end Go.Proofs.Ytjdkalimaldofaa
