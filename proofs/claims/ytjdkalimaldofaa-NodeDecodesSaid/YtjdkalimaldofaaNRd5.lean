/-
  What Decode reads of an encodable node's bytes is that node: plain.
-/
import Derived.Test.YtjdkalimaldofaaNRd4
namespace Go.Proofs.Ytjdkalimaldofaa
open Go.RowKit
set_option linter.unusedSimpArgs false
set_option linter.unusedVariables false
theorem str_take (a b : List Int) : (strOfNums (a ++ b)).extract 0 a.length = strOfNums a := by
  apply ByteArray.ext
  apply Array.ext'
  rw [ByteArray.data_extract, Array.toList_extract]
  simp [strOfNums]
theorem str_drop (a b : List Int) : (strOfNums (a ++ b)).extract a.length (strOfNums (a ++ b)).size = strOfNums b := by
  apply ByteArray.ext
  apply Array.ext'
  rw [ByteArray.data_extract, Array.toList_extract, strOfNums_size]
  simp [strOfNums]
  exact List.take_of_length_le (by simp)
theorem raw_str (a b : List Int) {k : Nat} (h : k = a.length) : (⟨strOfNums (a ++ b), 0⟩ : RS).raw k = ⟨strOfNums b, 0⟩ := by
  subst h
  have hc : (0 : Int) = 0 ∧ a.length ≤ (strOfNums (a ++ b)).size := ⟨rfl, by rw [strOfNums_size, List.length_append]; omega⟩
  unfold RS.raw rawS rawE
  dsimp only
  rw [if_pos hc, if_pos rfl, if_pos hc.2, str_drop]
theorem txt_str (a b : List Int) {k : Nat} (h : k = a.length) : (⟨strOfNums (a ++ b), 0⟩ : RS).txt k = strOfNums a := by
  subst h
  have hc : (0 : Int) = 0 ∧ a.length ≤ (strOfNums (a ++ b)).size := ⟨rfl, by rw [strOfNums_size, List.length_append]; omega⟩
  unfold RS.txt rawT
  dsimp only
  rw [if_pos hc, str_take]
theorem num_str (a b : List Int) {k : Nat} (h : k = a.length) : (⟨strOfNums (a ++ b), 0⟩ : RS).num k = numTo (strOfNums a) a.length := by
  have := txt_str a b h
  unfold RS.txt at this
  unfold RS.num rdNum
  dsimp only at *
  rw [this, strOfNums_size]
theorem byteAt_str (a : List Int) (k : Nat) (h : k < a.length) (ha : 0 ≤ a[k] ∧ a[k] ≤ 255) : byteAt (strOfNums a) k = a[k] := by
  have hk : k < (strOfNums a).size := by rw [strOfNums_size]; exact h
  rw [byteAt, dif_pos hk]
  have e : (strOfNums a)[k] = UInt8.ofNat a[k].toNat := by
    show (strOfNums a).data[k]'_ = _
    simp [strOfNums]
  rw [e, UInt8.toNat_ofNat']
  omega
theorem num_be1 (x : Int) (b : List Int) (h : 0 ≤ x ∧ x ≤ 255) : (⟨strOfNums (be1 x ++ b), 0⟩ : RS).num 1 = x := by
  rw [num_str (k := 1) (be1 x) b rfl]
  show 0 * 256 + byteAt (strOfNums (be1 x)) 0 = x
  rw [byteAt_str (be1 x) 0 (by simp [be1]) (by simpa [be1] using h)]
  show 0 * 256 + x = x
  omega
theorem num_be2 (x : Int) (b : List Int) (h : 0 ≤ x ∧ x ≤ 65535) : (⟨strOfNums (be2 x ++ b), 0⟩ : RS).num 2 = x := by
  rw [num_str (k := 2) (be2 x) b rfl]
  show (0 * 256 + byteAt (strOfNums (be2 x)) 0) * 256 + byteAt (strOfNums (be2 x)) 1 = x
  rw [byteAt_str (be2 x) 0 (by simp [be2]) (by simp only [be2, List.getElem_cons_zero]; omega), byteAt_str (be2 x) 1 (by simp [be2]) (by simp only [be2, List.getElem_cons_succ, List.getElem_cons_zero]; omega)]
  show (0 * 256 + x / 256 % 256) * 256 + x % 256 = x
  omega
theorem num_be4 (x : Int) (b : List Int) (h : 0 ≤ x ∧ x ≤ 4294967295) : (⟨strOfNums (be4 x ++ b), 0⟩ : RS).num 4 = x := by
  rw [num_str (k := 4) (be4 x) b rfl]
  show (((0 * 256 + byteAt (strOfNums (be4 x)) 0) * 256 + byteAt (strOfNums (be4 x)) 1) * 256 + byteAt (strOfNums (be4 x)) 2) * 256 + byteAt (strOfNums (be4 x)) 3 = x
  rw [byteAt_str (be4 x) 0 (by simp [be4]) (by simp only [be4, List.getElem_cons_zero]; omega), byteAt_str (be4 x) 1 (by simp [be4]) (by simp only [be4, List.getElem_cons_succ, List.getElem_cons_zero]; omega),
    byteAt_str (be4 x) 2 (by simp [be4]) (by simp only [be4, List.getElem_cons_succ, List.getElem_cons_zero]; omega), byteAt_str (be4 x) 3 (by simp [be4]) (by simp only [be4, List.getElem_cons_succ, List.getElem_cons_zero]; omega)]
  show (((0 * 256 + x / 16777216 % 256) * 256 + x / 65536 % 256) * 256 + x / 256 % 256) * 256 + x % 256 = x
  omega
theorem raw_be1 (x : Int) (b : List Int) : (⟨strOfNums (be1 x ++ b), 0⟩ : RS).raw 1 = ⟨strOfNums b, 0⟩ := raw_str (be1 x) b rfl
theorem raw_be2 (x : Int) (b : List Int) : (⟨strOfNums (be2 x ++ b), 0⟩ : RS).raw 2 = ⟨strOfNums b, 0⟩ := raw_str (be2 x) b rfl
theorem raw_be4 (x : Int) (b : List Int) : (⟨strOfNums (be4 x ++ b), 0⟩ : RS).raw 4 = ⟨strOfNums b, 0⟩ := raw_str (be4 x) b rfl
theorem raw_bts (s : ByteArray) (b : List Int) : (⟨strOfNums (bts s ++ b), 0⟩ : RS).raw s.size = ⟨strOfNums b, 0⟩ := raw_str (bts s) b (bts_len s).symm
theorem txt_bts (s : ByteArray) (b : List Int) : (⟨strOfNums (bts s ++ b), 0⟩ : RS).txt s.size = s := by rw [txt_str (bts s) b (bts_len s).symm, str_bts]
/-- what stands behind k entries, Z at the end -/
def ND.rest (n : ND) (Z : List Int) (k : Nat) : List Int := (n.body ++ Z).drop (n.entTo k).length
theorem ND.pre (n : ND) {j k : Nat} (h : j ≤ k) : ∃ R, n.entTo k = n.entTo j ++ R := by
  obtain ⟨d, rfl⟩ := Nat.le.dest h
  clear h
  induction d with
  | zero => exact ⟨[], by simp⟩
  | succ d ih =>
    obtain ⟨R, hR⟩ := ih
    exact ⟨R ++ n.ent (j + d), by rw [← Nat.add_assoc, ND.entTo, hR, List.append_assoc]⟩
theorem ND.rest_step (n : ND) (Z : List Int) {k : Nat} (h : k < n.keys.length) : n.rest Z k = n.ent k ++ n.rest Z (k + 1) := by
  obtain ⟨R, hR⟩ := n.pre (j := k + 1) (k := n.keys.length) h
  have hb : n.body = n.entTo (k + 1) ++ R := hR
  unfold ND.rest
  rw [hb, List.append_assoc, List.drop_left, ND.entTo, List.append_assoc, List.drop_left]
theorem ND.rest_zero (n : ND) (Z : List Int) : n.body ++ Z = n.entTo 0 ++ n.rest Z 0 := by
  obtain ⟨R, hR⟩ := n.pre (j := 0) (k := n.keys.length) (Nat.zero_le _)
  have hb : n.body = n.entTo 0 ++ R := hR
  unfold ND.rest
  rw [hb, List.append_assoc, List.drop_left]
theorem take_txt {l : List ByteArray} {k : Nat} (h : k < l.length) : l.take k ++ [txtAt l k] = l.take (k + 1) := by
  rw [txtAt_get h, List.take_append_getElem h]
theorem take_kid {l : List Int} {k : Nat} (h : k < l.length) : l.take k ++ [kidAt l k] = l.take (k + 1) := by
  rw [kidAt_get h, List.take_append_getElem h]
theorem leaf_reads {n : ND} (hl : n.lens = true) (hF : n.form = true) (hf : n.leaf = true) (Z : List Int) : ∀ k, k ≤ n.keys.length →
    rsLeaf (strOfNums (n.body ++ Z)) 0 k = ⟨n.keys.take k, n.values.take k, [], ⟨strOfNums (n.rest Z k), 0⟩⟩ := by
  have hll := hl
  rw [ND.lens, Bool.and_eq_true] at hll
  have hfm := ND.form_leaf hF hf
  intro k
  induction k with
  | zero =>
    intro _
    have h0 := n.rest_zero Z
    rw [show n.entTo 0 = [] by unfold ND.entTo; rw [if_pos hf]] at h0
    show (⟨[], [], [], ⟨strOfNums (n.body ++ Z), 0⟩⟩ : RSt) = _
    rw [h0]
    rfl
  | succ k ih =>
    intro hk
    have h := ih (by omega)
    have hk' : k < n.keys.length := hk
    have h1 := txt_le hll.1 (fun x hx => by simp [keyOk] at hx; omega) k
    have h2 := txt_le hll.2 (fun x hx => by simp [valOk] at hx; omega) k
    have hst : rsLeaf (strOfNums (n.body ++ Z)) 0 (k + 1) = (rsLeaf (strOfNums (n.body ++ Z)) 0 k).leafStep := RSt.run_step (by show (rsLeaf (strOfNums (n.body ++ Z)) 0 k).r.e = 0; rw [h])
    have hent : n.ent k = be1 ((txtAt n.keys k).size : Int) ++ be1 ((txtAt n.values k).size : Int) ++ bts (txtAt n.keys k) ++ bts (txtAt n.values k) := by unfold ND.ent; rw [if_pos hf]
    rw [hst, h, n.rest_step Z hk', hent]
    simp only [List.append_assoc]
    unfold RSt.leafStep
    dsimp only
    rw [num_be1 _ _ h1, raw_be1, num_be1 _ _ h2, raw_be1]
    rw [show (((txtAt n.keys k).size : Int)).toNat = (txtAt n.keys k).size from rfl, show (((txtAt n.values k).size : Int)).toNat = (txtAt n.values k).size from rfl]
    rw [txt_bts, raw_bts, txt_bts, raw_bts, take_txt hk', take_txt (by omega)]
theorem inner_reads {n : ND} (hl : n.lens = true) (hF : n.form = true) (hK : n.kids.all kidOk = true) (hf : n.leaf = false) (Z : List Int) : ∀ k, k ≤ n.keys.length →
    rsInner (strOfNums (n.body ++ Z)) 0 k = ⟨n.keys.take k, [], n.kids.take (k + 1), ⟨strOfNums (n.rest Z k), 0⟩⟩ := by
  have hll := hl
  rw [ND.lens, Bool.and_eq_true] at hll
  have hfm := ND.form_inner hF hf
  have hkid : ∀ i, i < n.kids.length → 0 ≤ kidAt n.kids i ∧ kidAt n.kids i ≤ 4294967295 := fun i hi => by
    have := List.all_eq_true.1 hK _ (List.getElem_mem hi)
    rw [kidAt_get hi]
    simpa [kidOk] using this
  intro k
  induction k with
  | zero =>
    intro _
    have h0 := n.rest_zero Z
    rw [show n.entTo 0 = be4 (kidAt n.kids 0) by unfold ND.entTo; rw [if_neg (by rw [hf]; decide)]] at h0
    show (⟨[], [], [(⟨strOfNums (n.body ++ Z), 0⟩ : RS).num 4], (⟨strOfNums (n.body ++ Z), 0⟩ : RS).raw 4⟩ : RSt) = _
    rw [h0, num_be4 _ _ (hkid 0 (by omega)), raw_be4]
    have := take_kid (l := n.kids) (k := 0) (by omega)
    rw [← this]
    rfl
  | succ k ih =>
    intro hk
    have h := ih (by omega)
    have hk' : k < n.keys.length := hk
    have h1 := txt_le hll.1 (fun x hx => by simp [keyOk] at hx; omega) k
    have hst : rsInner (strOfNums (n.body ++ Z)) 0 (k + 1) = (rsInner (strOfNums (n.body ++ Z)) 0 k).innerStep := RSt.run_step (by show (rsInner (strOfNums (n.body ++ Z)) 0 k).r.e = 0; rw [h])
    have hent : n.ent k = be1 ((txtAt n.keys k).size : Int) ++ bts (txtAt n.keys k) ++ be4 (kidAt n.kids (k + 1)) := by unfold ND.ent; rw [if_neg (by rw [hf]; decide)]
    rw [hst, h, n.rest_step Z hk', hent]
    simp only [List.append_assoc]
    unfold RSt.innerStep
    dsimp only
    rw [num_be1 _ _ h1, raw_be1]
    rw [show (((txtAt n.keys k).size : Int)).toNat = (txtAt n.keys k).size from rfl]
    rw [txt_bts, raw_bts, num_be4 _ _ (hkid (k + 1) (by omega)), raw_be4, take_txt hk', take_kid (by omega)]
/-- the header's marks -/
theorem out_parts {n : ND} (hl : n.lens = true) (size : Nat) : ∃ Z, n.out size = bts magic ++ (be1 (if n.leaf then 1 else 2) ++ (be1 0 ++ (be2 n.keys.length ++ ((be4 n.body.length ++ be4 n.crc) ++ (n.body ++ Z))))) := by
  refine ⟨List.replicate (size - n.enc.length) 0, ?_⟩
  unfold ND.out
  rw [ND.enc_bts hl]
  have hb := bts_str (ND.body_ok hl)
  unfold ND.enc ND.head
  rw [hb]
  simp only [List.append_assoc]
theorem pNode_out {n : ND} (hck : n.check = 0) (size : Nat) (hp : n.keys.length ≤ 65535) : pNode (strOfNums (n.out size)) = n ∧ (pEnd (strOfNums (n.out size))).r.e = 0 := by
  obtain ⟨hl, hsh, -⟩ := ND.check_zero hck
  have hF := ND.shape_form hsh
  have hK : n.kids.all kidOk = true := by
    unfold ND.shape at hsh
    rw [Bool.and_eq_true, Bool.and_eq_true] at hsh
    exact hsh.1.2
  obtain ⟨Z, hZ⟩ := out_parts hl size
  rw [hZ]
  have h1 : pr1 (strOfNums (bts magic ++ (be1 (if n.leaf then 1 else 2) ++ (be1 0 ++ (be2 n.keys.length ++ ((be4 n.body.length ++ be4 n.crc) ++ (n.body ++ Z))))))) = ⟨strOfNums (be1 (if n.leaf then 1 else 2) ++ (be1 0 ++ (be2 n.keys.length ++ ((be4 n.body.length ++ be4 n.crc) ++ (n.body ++ Z))))), 0⟩ := raw_bts magic _
  generalize strOfNums (bts magic ++ (be1 (if n.leaf then 1 else 2) ++ (be1 0 ++ (be2 n.keys.length ++ ((be4 n.body.length ++ be4 n.crc) ++ (n.body ++ Z)))))) = S at *
  have hkd : pKind S = (if n.leaf then 1 else 2) := by
    unfold pKind
    rw [h1, num_be1 _ _ (by split <;> omega)]
  have h3 : pr3 S = ⟨strOfNums (be2 n.keys.length ++ ((be4 n.body.length ++ be4 n.crc) ++ (n.body ++ Z))), 0⟩ := by
    unfold pr3
    rw [h1, raw_be1, raw_be1]
  have hks : pKeys S = n.keys.length := by
    unfold pKeys
    rw [h3, num_be2 _ _ (by omega)]
  have h5 : pr5 S = ⟨strOfNums (n.body ++ Z), 0⟩ := by
    unfold pr5
    rw [h3, raw_be2, raw_str (k := 8) (be4 n.body.length ++ be4 n.crc) (n.body ++ Z) rfl]
  unfold pNode pEnd rsNode rsAny
  rw [hkd, hks, h5]
  rw [show ((n.keys.length : Int)).toNat = n.keys.length from rfl]
  cases hf : n.leaf
  · have hr := inner_reads hl hF hK hf Z n.keys.length (Nat.le_refl _)
    have hfm := ND.form_inner hF hf
    simp only [Bool.false_eq_true, if_false]
    rw [if_neg (by decide), hr]
    refine ⟨?_, rfl⟩
    have hv : n.values = [] := List.length_eq_zero_iff.1 hfm.2
    dsimp only
    rw [List.take_length, ← hfm.1, List.take_length]
    cases n
    simp_all
  · have hr := leaf_reads hl hF hf Z n.keys.length (Nat.le_refl _)
    have hfm := ND.form_leaf hF hf
    simp only [if_true]
    rw [hr]
    refine ⟨?_, rfl⟩
    have hv : n.kids = [] := List.length_eq_zero_iff.1 hfm.2
    dsimp only
    rw [List.take_length, ← hfm.1, List.take_length]
    cases n
    simp_all
end Go.Proofs.Ytjdkalimaldofaa
