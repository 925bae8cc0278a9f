/-
  entries: the program's bytes of a node's entries.
-/
import Derived.Test.YtjdkalimaldofaaNCrc
import Derived.Test.YtjdkalimaldofaaNSame
namespace Go.Proofs.Ytjdkalimaldofaa
open Go.RowKit
set_option linter.unusedSimpArgs false
set_option linter.unusedVariables false
def kidAt (l : List Int) (i : Nat) : Int := l[i]?.getD 0
def txtAt (l : List ByteArray) (i : Nat) : ByteArray := l[i]?.getD ⟨#[]⟩
theorem kidAt_get {l : List Int} {i : Nat} (h : i < l.length) : kidAt l i = l[i] := by simp [kidAt, h]
theorem txtAt_get {l : List ByteArray} {i : Nat} (h : i < l.length) : txtAt l i = l[i] := by simp [txtAt, h]
/-- the bytes of entry i -/
def ND.ent (n : ND) (i : Nat) : List Int :=
  if n.leaf then be1 ((txtAt n.keys i).size : Int) ++ be1 ((txtAt n.values i).size : Int) ++ bts (txtAt n.keys i) ++ bts (txtAt n.values i)
  else be1 ((txtAt n.keys i).size : Int) ++ bts (txtAt n.keys i) ++ be4 (kidAt n.kids (i + 1))
def ND.entTo (n : ND) : Nat → List Int
  | 0 => if n.leaf then [] else be4 (kidAt n.kids 0)
  | k + 1 => n.entTo k ++ n.ent k
def ND.body (n : ND) : List Int := n.entTo n.keys.length
theorem be1_len (x : Int) : (be1 x).length = 1 := rfl
theorem be2_len (x : Int) : (be2 x).length = 2 := rfl
theorem be4_len (x : Int) : (be4 x).length = 4 := rfl
theorem sz_txt (l : List ByteArray) (i : Nat) : sz l i = ((txtAt l i).size : Int) := by
  unfold sz txtAt
  cases h : l[i]? with
  | none => rfl
  | some x => rfl
theorem ND.ent_len (n : ND) (i : Nat) : ((n.ent i).length : Int) = n.rentry i := by
  unfold ND.ent ND.rentry
  rw [sz_txt, sz_txt]
  cases n.leaf <;> simp [be1_len, be4_len, bts_len] <;> omega
theorem ND.entTo_len (n : ND) (k : Nat) : ((n.entTo k).length : Int) = (if n.leaf then 0 else 4) + n.sumTo k := by
  induction k with
  | zero => unfold ND.entTo ND.sumTo; cases n.leaf <;> simp [be4_len]
  | succ k ih => show (((n.entTo k) ++ n.ent k).length : Int) = _ + (n.sumTo k + n.rentry k); rw [List.length_append, Int.natCast_add, ih, ND.ent_len]; omega
theorem ND.sumTo_mono (n : ND) {j k : Nat} (h : j ≤ k) : n.sumTo j ≤ n.sumTo k := by
  induction h with
  | refl => exact Int.le_refl _
  | step h ih => rename_i m; have := n.rentry_pos m; show n.sumTo j ≤ n.sumTo m + n.rentry m; omega
theorem ND.entTo_fit {n : ND} (hF : n.form = true) {k : Nat} (hk : k ≤ n.keys.length) : ((n.entTo k).length : Int) + 16 ≤ n.psize := by
  rw [ND.entTo_len, psize_rsize hF, ND.rsize]
  have := n.sumTo_mono hk
  cases n.leaf <;> simp <;> omega
set_option maxRecDepth 100000 in
set_option maxHeartbeats 4000000 in
theorem entries_true (w : World) (own : Nat → Prop) (v : Value) (n : ND) (hv : NodeAt w own v n) (sm : n.Small) (hl : n.lens = true) (hsh : n.shape = true) (hf : n.leaf = true) (hp : n.psize ≤ 4096) :
    Calls Try.prog 40 #[v] w fun e w' => e = .returned (.string (strOfNums n.body)) ∧ Bl w w' := by
  have hv2 : NodeAt w (fun k => k < w.heap.size) v n := by
    obtain ⟨a, b, c, d, e, f, rfl, h⟩ := hv
    exact ⟨a, b, c, d, e, f, rfl, h.mono (fun k hk _ => hk)⟩
  clear hv
  have hv' := hv2
  obtain ⟨ka, kc, va, vc, ia, ic, rfl, h⟩ := hv2
  obtain ⟨_, _, _, hmax⟩ := RdAt.shape h.keys
  unfold maxLen at hmax
  have hs1 := sm.keys
  have hs3 := sm.kids
  have HF := Lib.hid (ND.shape_form hsh)
  have HKI : Hid (∀ x ∈ n.kids, 0 ≤ x ∧ x ≤ 4294967295) := by
    intro x hx
    simp only [ND.shape, Bool.and_eq_true, List.all_eq_true] at hsh
    have := hsh.1.2 x hx
    simpa [kidOk] using this
  have HL := Lib.hid (And.intro hl (ND.form_leaf (ND.shape_form hsh) hf))
  have HLE := Lib.hid hf
  have hp0 : 20 ≤ n.psize ∨ 16 ≤ n.psize := by have := n.psumTo_pos n.keys.length; unfold ND.psize; split <;> omega
  have hp1 : 16 ≤ n.psize := by omega
  have HPF : Hid (∀ k, k ≤ n.keys.length → ((n.entTo k).length : Int) + 16 ≤ n.psize) := fun k hk => ND.entTo_fit HF.out hk
  clear hp0 hsh
  unfold nodeV
  unfold nodeV at hv'
  rw [hf]
  rw [hf] at hv'
  clear hf
  have kB : Bl w (w.alloc (.cells #[.bool true, .slice ka n.keys.length kc, .slice va n.values.length vc, .slice ia n.kids.length ic] 25)) := (Bl.refl w).alloc _
  have b1 : (w.alloc (.cells #[.bool true, .slice ka n.keys.length kc, .slice va n.values.length vc, .slice ia n.kids.length ic] 25)).heap[w.heap.size]? = some (.cells #[.bool true, .slice ka n.keys.length kc, .slice va n.values.length vc, .slice ia n.kids.length ic] 25 (0, 0)) := block_new _ _
  go_enter Try.func40, Try.ntmps40
  go_wp2_with fail
  refine (psize_any _ _ _ n (hv'.bl kB) sm hl).mono ?_
  rintro e w2 ⟨rfl, k2⟩
  have b2 := below_keeps k2 b1 (lt_of_block b1)
  have lB := lt_of_block b2
  go_wp2_with fail
  refine (newwriter_any _ n.psize (by omega) (by omega)).mono ?_
  rintro e w3 ⟨rfl, hw3, k3⟩
  have b3 := below_keeps k3 b2 lB
  have hh := h.below ((kB.trans k2).trans k3)
  have kW3 := (kB.trans k2).trans k3
  have hz := kW3.size
  have hz2 := (kB.trans k2).size
  obtain ⟨x0, x1, x2, x3, -, -, -, -⟩ := cells4 b3
  clear kB b1 k2 b2 k3
  generalize w2.heap.size = M at *
  have FK : Hid (∀ w', Chg (fun j => M ≤ j) w3 w' → w'.cell? ⟨w.heap.size, 0, none⟩ = some (.bool true) ∧ w'.cell? ⟨w.heap.size, 1, none⟩ = some (.slice ka n.keys.length kc) ∧ w'.cell? ⟨w.heap.size, 2, none⟩ = some (.slice va n.values.length vc) ∧ w'.cell? ⟨w.heap.size, 3, none⟩ = some (.slice ia n.kids.length ic)) := fun w' kk => by
    have bb := cells4 (kk.keeps b3 (by omega))
    exact ⟨bb.1, bb.2.1, bb.2.2.1, bb.2.2.2.1⟩
  have RK : Hid (∀ w', Chg (fun j => M ≤ j) w3 w' → NodeIn w' (fun k => k < w.heap.size) n ka kc va vc ia ic) := fun w' kk => hh.chg kk (fun k hk e => by omega)
  have hm30 : n.psize ≤ 1073741824 := by omega
  have HP : Hid (n.psize ≤ 1073741824) := hm30
  clear hm30 hp hp1 hl h hh b3 hv'
  go_wp2_with fail
  clear x0 x1 x2 x3
  go_loopw [4, 5, 24] (fun _ _ i wr => ∃ k : Nat, k ≤ n.keys.length ∧ i = .int .i64 k ∧ Wr wr M M n.psize (n.entTo k) ∧ Chg (fun j => M ≤ j) w3 wr) (fun _ _ i _ => n.keys.length - (intOf i).toNat)
  case atStart => exact ⟨0, by omega, rfl, (by rw [ND.entTo, if_pos HLE.out]; exact hw3), Chg.refl _ _⟩
  case round =>
    obtain ⟨k, hk, rfl, hwr, hcr⟩ := hrel
    have i0 : (0 : Int) ≤ (k : Int) := by omega
    by_cases hlt : k < n.keys.length
    · have i1 : (k : Int) < (n.keys.length : Int) := by omega
      have hent : Hid (n.entTo (k + 1) = n.entTo k ++ n.ent k) := rfl
      have hfit := HPF.out (k + 1) (by omega)
      rw [hent.out, List.length_append, Int.natCast_add] at hfit
      obtain ⟨g, off, hka, _, hg, hc⟩ := RdAt.get (RK.out wr hcr).keys (by omega)
      have c1 := hc k _ (tcells_get hlt)
      clear hc
      have hkb : 1 ≤ n.keys[k].size ∧ n.keys[k].size ≤ 64 := by
        have := HL.out.1
        simp only [ND.lens, Bool.and_eq_true, List.all_eq_true] at this
        have := this.1 _ (List.getElem_mem hlt)
        simpa [keyOk] using this
      have hks : (n.keys[k].size : Int) ≤ 64 := by omega
      have hks0 : (0 : Int) ≤ (n.keys[k].size : Int) := by omega
      have HKB := Lib.hid hkb
      clear hkb
      obtain ⟨x0, x1, x2, x3⟩ := FK.out wr hcr
      subst hka
      have hvl : k < n.values.length := by have := HL.out.2.1; omega
      have HVL : Hid (n.values.length = n.keys.length) := HL.out.2.1
      obtain ⟨g2, off2, hva, _, hg2, hc2⟩ := RdAt.get (RK.out wr hcr).values (by omega)
      have c2 := hc2 k _ (tcells_get hvl)
      clear hc2
      have hvb : n.values[k].size ≤ 64 := by
        have := HL.out.1
        simp only [ND.lens, Bool.and_eq_true, List.all_eq_true] at this
        have := this.2 _ (List.getElem_mem hvl)
        simpa [valOk] using this
      have hvs : (n.values[k].size : Int) ≤ 64 := by omega
      have hvs0 : (0 : Int) ≤ (n.values[k].size : Int) := by omega
      have HVB := Lib.hid hvb
      clear hvb
      have iv : (k : Int) < (n.values.length : Int) := by omega
      subst hva
      have hE : n.ent k = be1 (n.keys[k].size : Int) ++ be1 (n.values[k].size : Int) ++ bts n.keys[k] ++ bts n.values[k] := by
        rw [ND.ent, if_pos HLE.out, txtAt_get hlt, txtAt_get hvl]
      rw [hE, List.length_append, List.length_append, List.length_append, bts_len, bts_len, be1_len, be1_len] at hfit
      have HFIT := Lib.hid hfit
      have HE := Lib.hid hE
      clear hE hfit
      go_wp2_with fail
      refine (wU8_any _ M M n.psize _ hwr HP.out _ (by omega) (by omega) (by have := HFIT.out; omega)).mono ?_
      rintro e w4 ⟨rfl, hw4, hc4⟩
      have hr4 := hcr.trans hc4
      obtain ⟨y0, y1, y2, y3⟩ := FK.out w4 hr4
      have d2 := hc4.cellOf c2 (by show ¬ M ≤ g2; omega)
      go_wp2_with fail
      refine (wU8_any _ M M n.psize _ hw4 HP.out _ (by omega) (by omega) (by have := HFIT.out; simp [be1_len]; omega)).mono ?_
      rintro e w5 ⟨rfl, hw5, hc5⟩
      have hr5 := hr4.trans hc5
      clear y0 y1 y2 y3
      go_wp2_with fail
      refine (raw_any _ M M n.psize _ hw5 HP.out _ (by have := HFIT.out; simp [be1_len]; omega)).mono ?_
      rintro e w6 ⟨rfl, hw6, hc6⟩
      have hr6 := hr5.trans hc6
      obtain ⟨y0, y1, y2, y3⟩ := FK.out w6 hr6
      have e2 := hc6.cellOf (hc5.cellOf d2 (by show ¬ M ≤ g2; omega)) (by show ¬ M ≤ g2; omega)
      go_wp2_with fail
      refine (raw_any _ M M n.psize _ hw6 HP.out _ (by have := HFIT.out; simp [be1_len, bts_len]; omega)).mono ?_
      rintro e w7 ⟨rfl, hw7, hc7⟩
      go_wp2_with fail
      go_roundw
      case rel => exact ⟨k + 1, by omega, by go_num, by rw [hent.out, HE.out]; simpa only [List.append_assoc] using hw7, hr6.trans hc7⟩
      case measure => simp [intOf]; omega
    · obtain rfl : k = n.keys.length := by omega
      go_wp2_with fail
      refine (done_any _ M M n.psize _ hwr).mono ?_
      rintro e w9 ⟨rfl, rfl⟩
      go_wp2_with fail
      go_ret
      exact ⟨rfl, Below.trans kW3 (hcr.below hz (fun i hi e => by omega))⟩
set_option maxRecDepth 100000 in
set_option maxHeartbeats 4000000 in
theorem entries_false (w : World) (own : Nat → Prop) (v : Value) (n : ND) (hv : NodeAt w own v n) (sm : n.Small) (hl : n.lens = true) (hsh : n.shape = true) (hf : n.leaf = false) (hp : n.psize ≤ 4096) :
    Calls Try.prog 40 #[v] w fun e w' => e = .returned (.string (strOfNums n.body)) ∧ Bl w w' := by
  have hv2 : NodeAt w (fun k => k < w.heap.size) v n := by
    obtain ⟨a, b, c, d, e, f, rfl, h⟩ := hv
    exact ⟨a, b, c, d, e, f, rfl, h.mono (fun k hk _ => hk)⟩
  clear hv
  have hv' := hv2
  obtain ⟨ka, kc, va, vc, ia, ic, rfl, h⟩ := hv2
  obtain ⟨_, _, _, hmax⟩ := RdAt.shape h.keys
  unfold maxLen at hmax
  have hs1 := sm.keys
  have hs3 := sm.kids
  have HF := Lib.hid (ND.shape_form hsh)
  have HKI : Hid (∀ x ∈ n.kids, 0 ≤ x ∧ x ≤ 4294967295) := by
    intro x hx
    simp only [ND.shape, Bool.and_eq_true, List.all_eq_true] at hsh
    have := hsh.1.2 x hx
    simpa [kidOk] using this
  have HL := Lib.hid (And.intro hl (ND.form_inner (ND.shape_form hsh) hf))
  have HLE := Lib.hid hf
  have hp0 : 20 ≤ n.psize ∨ 16 ≤ n.psize := by have := n.psumTo_pos n.keys.length; unfold ND.psize; split <;> omega
  have hp1 : 16 ≤ n.psize := by omega
  have HPF : Hid (∀ k, k ≤ n.keys.length → ((n.entTo k).length : Int) + 16 ≤ n.psize) := fun k hk => ND.entTo_fit HF.out hk
  clear hp0 hsh
  unfold nodeV
  unfold nodeV at hv'
  rw [hf]
  rw [hf] at hv'
  clear hf
  have kB : Bl w (w.alloc (.cells #[.bool false, .slice ka n.keys.length kc, .slice va n.values.length vc, .slice ia n.kids.length ic] 25)) := (Bl.refl w).alloc _
  have b1 : (w.alloc (.cells #[.bool false, .slice ka n.keys.length kc, .slice va n.values.length vc, .slice ia n.kids.length ic] 25)).heap[w.heap.size]? = some (.cells #[.bool false, .slice ka n.keys.length kc, .slice va n.values.length vc, .slice ia n.kids.length ic] 25 (0, 0)) := block_new _ _
  go_enter Try.func40, Try.ntmps40
  go_wp2_with fail
  refine (psize_any _ _ _ n (hv'.bl kB) sm hl).mono ?_
  rintro e w2 ⟨rfl, k2⟩
  have b2 := below_keeps k2 b1 (lt_of_block b1)
  have lB := lt_of_block b2
  go_wp2_with fail
  refine (newwriter_any _ n.psize (by omega) (by omega)).mono ?_
  rintro e w3 ⟨rfl, hw3, k3⟩
  have b3 := below_keeps k3 b2 lB
  have hh := h.below ((kB.trans k2).trans k3)
  have kW3 := (kB.trans k2).trans k3
  have hz := kW3.size
  have hz2 := (kB.trans k2).size
  obtain ⟨x0, x1, x2, x3, -, -, -, -⟩ := cells4 b3
  clear kB b1 k2 b2 k3
  generalize w2.heap.size = M at *
  have FK : Hid (∀ w', Chg (fun j => M ≤ j) w3 w' → w'.cell? ⟨w.heap.size, 0, none⟩ = some (.bool false) ∧ w'.cell? ⟨w.heap.size, 1, none⟩ = some (.slice ka n.keys.length kc) ∧ w'.cell? ⟨w.heap.size, 2, none⟩ = some (.slice va n.values.length vc) ∧ w'.cell? ⟨w.heap.size, 3, none⟩ = some (.slice ia n.kids.length ic)) := fun w' kk => by
    have bb := cells4 (kk.keeps b3 (by omega))
    exact ⟨bb.1, bb.2.1, bb.2.2.1, bb.2.2.2.1⟩
  have RK : Hid (∀ w', Chg (fun j => M ≤ j) w3 w' → NodeIn w' (fun k => k < w.heap.size) n ka kc va vc ia ic) := fun w' kk => hh.chg kk (fun k hk e => by omega)
  have hm30 : n.psize ≤ 1073741824 := by omega
  have HP : Hid (n.psize ≤ 1073741824) := hm30
  clear hm30 hp hp1 hl h hh b3 hv'
  have HKL : Hid (n.kids.length = n.keys.length + 1) := HL.out.2.1
  have hkl : 0 < n.kids.length := by have := HKL.out; omega
  obtain ⟨g, off, hia, _, hg, hc⟩ := RdAt.get (RK.out w3 (Chg.refl _ _)).kids hkl
  have c0 := hc 0 _ (icells_get hkl)
  rw [Nat.add_zero] at c0
  clear hc
  have hk0 := HKI.out _ (List.getElem_mem hkl)
  obtain ⟨hk00, hk01⟩ := hk0
  have ii : (0 : Int) < (n.kids.length : Int) := by omega
  subst hia
  go_wp2_with fail
  refine (wU32_any _ M M n.psize _ hw3 HP.out _ (by omega) (by omega) (by have h0 := HPF.out 0 (by omega); rw [ND.entTo, if_neg (by rw [HLE.out]; decide), be4_len] at h0; simp; omega)).mono ?_
  rintro e w4 ⟨rfl, hw4, hc4⟩
  clear x0 x1 x2 x3 c0 hk00 hk01
  obtain ⟨x0, x1, x2, x3⟩ := FK.out w4 hc4
  go_wp2_with fail
  clear x0 x1 x2 x3
  go_loopw [4, 5, 24] (fun _ _ i wr => ∃ k : Nat, k ≤ n.keys.length ∧ i = .int .i64 k ∧ Wr wr M M n.psize (n.entTo k) ∧ Chg (fun j => M ≤ j) w3 wr) (fun _ _ i _ => n.keys.length - (intOf i).toNat)
  case atStart => exact ⟨0, by omega, rfl, (by rw [ND.entTo, if_neg (by rw [HLE.out]; decide), kidAt_get (show 0 < n.kids.length by have := HKL.out; omega)]; exact hw4), hc4⟩
  case round =>
    obtain ⟨k, hk, rfl, hwr, hcr⟩ := hrel
    have i0 : (0 : Int) ≤ (k : Int) := by omega
    by_cases hlt : k < n.keys.length
    · have i1 : (k : Int) < (n.keys.length : Int) := by omega
      have hent : Hid (n.entTo (k + 1) = n.entTo k ++ n.ent k) := rfl
      have hfit := HPF.out (k + 1) (by omega)
      rw [hent.out, List.length_append, Int.natCast_add] at hfit
      obtain ⟨g1, off1, hka, _, hg1, hc⟩ := RdAt.get (RK.out wr hcr).keys (by omega)
      have c1 := hc k _ (tcells_get hlt)
      clear hc
      have hkb : 1 ≤ n.keys[k].size ∧ n.keys[k].size ≤ 64 := by
        have := HL.out.1
        simp only [ND.lens, Bool.and_eq_true, List.all_eq_true] at this
        have := this.1 _ (List.getElem_mem hlt)
        simpa [keyOk] using this
      have hks : (n.keys[k].size : Int) ≤ 64 := by omega
      have hks0 : (0 : Int) ≤ (n.keys[k].size : Int) := by omega
      have HKB := Lib.hid hkb
      clear hkb
      obtain ⟨x0, x1, x2, x3⟩ := FK.out wr hcr
      subst hka
      have hkl : k + 1 < n.kids.length := by have := HKL.out; omega
      obtain ⟨g2, off2, hia, _, hg2, hc2⟩ := RdAt.get (RK.out wr hcr).kids (by omega)
      have c2 := hc2 (k + 1) _ (icells_get hkl)
      clear hc2
      have hkk := HKI.out _ (List.getElem_mem hkl)
      have iv : (k : Int) + 1 < (n.kids.length : Int) := by omega
      have iw : IntKind.i64.wrap ((k : Int) + 1) = (k : Int) + 1 := IntWalk.i64_in _ (by omega)
      injection hia with hia
      injection hia with hia1 hia2
      subst hia1
      subst hia2
      have hE : n.ent k = be1 (n.keys[k].size : Int) ++ bts n.keys[k] ++ be4 n.kids[k + 1] := by
        rw [ND.ent, if_neg (by rw [HLE.out]; decide), txtAt_get hlt, kidAt_get hkl]
      rw [hE, List.length_append, List.length_append, bts_len, be1_len, be4_len] at hfit
      have HFIT := Lib.hid hfit
      have HE := Lib.hid hE
      obtain ⟨hkk0, hkk1⟩ := hkk
      have ck : Hid (∀ w', Chg (fun j => M ≤ j) wr w' → w'.cell? ⟨g, off + (k + 1), none⟩ = some (.int .i64 n.kids[k + 1])) := fun w' kk => kk.cellOf c2 (by show ¬ M ≤ g; omega)
      clear hE hfit c2
      go_wp2_with fail
      refine (wU8_any _ M M n.psize _ hwr HP.out _ (by omega) (by omega) (by have := HFIT.out; omega)).mono ?_
      rintro e w4 ⟨rfl, hw4, hc4⟩
      have hr4 := hcr.trans hc4
      obtain ⟨y0, y1, y2, y3⟩ := FK.out w4 hr4
      go_wp2_with fail
      refine (raw_any _ M M n.psize _ hw4 HP.out _ (by have := HFIT.out; simp [be1_len]; omega)).mono ?_
      rintro e w6 ⟨rfl, hw6, hc6⟩
      have hr6 := hr4.trans hc6
      clear y0 y1 y2 y3
      obtain ⟨y0, y1, y2, y3⟩ := FK.out w6 hr6
      have e2 := ck.out w6 (hc4.trans hc6)
      go_wp2_with fail
      refine (wU32_any _ M M n.psize _ hw6 HP.out _ (by omega) (by omega) (by have := HFIT.out; simp [be1_len, bts_len]; omega)).mono ?_
      rintro e w7 ⟨rfl, hw7, hc7⟩
      go_wp2_with fail
      go_roundw
      case rel => exact ⟨k + 1, by omega, by go_num, by rw [hent.out, HE.out]; simpa only [List.append_assoc] using hw7, hr6.trans hc7⟩
      case measure => simp [intOf]; omega
    · obtain rfl : k = n.keys.length := by omega
      go_wp2_with fail
      refine (done_any _ M M n.psize _ hwr).mono ?_
      rintro e w9 ⟨rfl, rfl⟩
      go_wp2_with fail
      go_ret
      exact ⟨rfl, Below.trans kW3 (hcr.below hz (fun i hi e => by omega))⟩
end Go.Proofs.Ytjdkalimaldofaa
