/-
  Encode: the document's, where it encodes.
-/
import Derived.Test.YtjdkalimaldofaaNHigh
import Derived.Test.YtjdkalimaldofaaSlStr
import Derived.Deep.RegionHeld3
import Derived.OwnWalk
import Derived.Lib.SlBytesConst
namespace Go.Proofs.Ytjdkalimaldofaa
open Go.RowKit
set_option linter.unusedSimpArgs false
set_option linter.unusedVariables false
theorem strCells_bts (s : ByteArray) : Lib.strCells s = bcells (bts s) := by
  simp [Lib.strCells, bcells, bts, Function.comp_def]
def OkB (l : List Int) : Prop := ∀ x ∈ l, 0 ≤ x ∧ x ≤ 255
theorem bts_str {l : List Int} (h : OkB l) : bts (strOfNums l) = l := by
  unfold bts
  rw [strOfNums_data, List.map_map]
  conv => rhs; rw [← List.map_id l]
  apply List.map_congr_left
  intro x hx
  have := h x hx
  simp only [Function.comp_apply, id_eq, UInt8.toNat_ofNat']
  omega
theorem OkB.append {a b : List Int} (h : OkB a) (k : OkB b) : OkB (a ++ b) := fun x hx => (List.mem_append.1 hx).elim (h x) (k x)
theorem okB_bts (s : ByteArray) : OkB (bts s) := by
  intro x hx
  simp only [bts, List.mem_map] at hx
  obtain ⟨b, _, rfl⟩ := hx
  have := b.toNat_lt
  omega
theorem okB_be4 (x : Int) : OkB (be4 x) := by
  intro y hy
  simp only [be4, List.mem_cons, List.not_mem_nil, or_false] at hy
  omega
theorem okB_be2 (x : Int) : OkB (be2 x) := by
  intro y hy
  simp only [be2, List.mem_cons, List.not_mem_nil, or_false] at hy
  omega
theorem okB_be1 {x : Int} (h : 0 ≤ x ∧ x ≤ 255) : OkB (be1 x) := by
  intro y hy
  simp only [be1, List.mem_cons, List.not_mem_nil, or_false] at hy
  omega
theorem txt_le {l : List ByteArray} {p : ByteArray → Bool} (h : l.all p = true) (hp : ∀ x, p x = true → x.size ≤ 64) (i : Nat) : 0 ≤ ((txtAt l i).size : Int) ∧ ((txtAt l i).size : Int) ≤ 255 := by
  unfold txtAt
  by_cases hi : i < l.length
  · have := hp _ (List.all_eq_true.1 h _ (List.getElem_mem hi))
    simp only [List.getElem?_eq_getElem hi, Option.getD_some]
    omega
  · rw [List.getElem?_eq_none (Nat.not_lt.1 hi)]
    exact ⟨by decide, by decide⟩
theorem ND.entTo_ok {n : ND} (h : n.lens = true) : ∀ k, OkB (n.entTo k)
  | 0 => by
    unfold ND.entTo
    split
    · intro x hx; cases hx
    · exact okB_be4 _
  | k + 1 => by
    have h' := h
    simp only [ND.lens, Bool.and_eq_true] at h'
    have k1 := txt_le h'.1 (fun x hx => by simp [keyOk] at hx; omega) k
    have k2 := txt_le h'.2 (fun x hx => by simp [valOk] at hx; omega) k
    refine OkB.append (ND.entTo_ok h k) ?_
    unfold ND.ent
    split
    · exact (((okB_be1 k1).append (okB_be1 k2)).append (okB_bts _)).append (okB_bts _)
    · exact ((okB_be1 k1).append (okB_bts _)).append (okB_be4 _)
theorem ND.body_ok {n : ND} (h : n.lens = true) : OkB n.body := ND.entTo_ok h _
theorem ND.enc_bts {n : ND} (h : n.lens = true) : bts (strOfNums n.enc) = n.enc := by
  refine bts_str ?_
  unfold ND.enc ND.head
  refine OkB.append (OkB.append (OkB.append (OkB.append (OkB.append (OkB.append (okB_bts _) ?_) ?_) (okB_be2 _)) (okB_be4 _)) (okB_be4 _)) (okB_bts _)
  · split <;> exact okB_be1 (by omega)
  · exact okB_be1 (by omega)
theorem marked_cells (w : World) (o : Obj) : ∀ (j : Nat) u, (bcells (bts magic))[j]? = some u → ((w.alloc (.cells #[.int .u8 68, .int .u8 78, .int .u8 79, .int .u8 68] 5 (4, 5))).alloc o).cell? ⟨w.heap.size, 0 + j, none⟩ = some u := by
  intro j u hj
  refine Lib.cell?_alloc_marked o ?_
  have hb : (w.alloc (.cells #[.int .u8 68, .int .u8 78, .int .u8 79, .int .u8 68] 5 (4, 5))).heap[w.heap.size]? = some (.cells #[.int .u8 68, .int .u8 78, .int .u8 79, .int .u8 68] 5 (4, 5)) := block_new _ _
  have hl : j < (bcells (bts magic)).length := (List.getElem?_eq_some_iff.1 hj).1
  have hl4 : j < 4 := hl
  unfold World.cell?
  rw [hb]
  rw [← hj]
  have : j = 0 ∨ j = 1 ∨ j = 2 ∨ j = 3 := by omega
  rcases this with rfl | rfl | rfl | rfl <;> rfl
theorem headOf_true {n : ND} {w : World} {own : Nat → Prop} {a : Option Addr} {cap : Nat} (hf : n.leaf = true) (h : SlAt w own 5 1 (.slice a (4 + 2 + 2 + 4) cap) (4 + 2 + 2 + 4) (bcells (bts magic) ++ bcells [1, 0] ++ bcells (be2 n.keys.length) ++ bcells (be4 n.body.length))) :
    SlAt w own 5 1 (.slice a n.head.length cap) n.head.length (bcells n.head) := by
  have e : n.head = bts magic ++ [1, 0] ++ be2 n.keys.length ++ be4 n.body.length := by rw [ND.head, if_pos hf]; rfl
  rw [ND.head_len, e, bcells_append, bcells_append, bcells_append]
  exact h
theorem headOf_false {n : ND} {w : World} {own : Nat → Prop} {a : Option Addr} {cap : Nat} (hf : n.leaf = false) (h : SlAt w own 5 1 (.slice a (4 + 2 + 2 + 4) cap) (4 + 2 + 2 + 4) (bcells (bts magic) ++ bcells [2, 0] ++ bcells (be2 n.keys.length) ++ bcells (be4 n.body.length))) :
    SlAt w own 5 1 (.slice a n.head.length cap) n.head.length (bcells n.head) := by
  have e : n.head = bts magic ++ [2, 0] ++ be2 n.keys.length ++ be4 n.body.length := by rw [ND.head, if_neg (by rw [hf]; decide)]; rfl
  rw [ND.head_len, e, bcells_append, bcells_append, bcells_append]
  exact h
theorem sl_newB (w : World) (l : List Int) (hm : l.length ≤ maxLen := by unfold maxLen; simp) : SlAt (w.alloc (.cells (bcells l).toArray 5)) (fun j => j = w.heap.size) 5 1 (.slice (some ⟨w.heap.size, 0, none⟩) l.length l.length) l.length (bcells l) :=
  ⟨by simp, .inr ⟨w.heap.size, 0, _, _, rfl, rfl, block_new _ _, Nat.le_refl _, hm, by simp, by simp; exact List.take_of_length_le (by simp)⟩⟩
set_option maxRecDepth 100000 in
set_option maxHeartbeats 8000000 in
theorem rencode_ok_true (w : World) (own : Nat → Prop) (v : Value) (n : ND) (size : Nat) (hv : NodeAt w own v n) (sm : n.Small) (ln : n.Lens) (hc : n.check = 0) (hf : n.leaf = true) (hs : sizeOk size = true) (hp : n.psize ≤ size) :
    Calls Try.prog 17 #[.int .i64 size, v] w fun e w' => (∃ x, e = .returned (.tuple #[x, .int .i64 0]) ∧ RdAt w' (fun k => w.heap.size ≤ k) 1 x size (bcells (n.out size))) ∧ Bl w w' := by
  have hv2 : NodeAt w (fun k => k < w.heap.size) v n := by
    obtain ⟨a, b, c, d, e, f, rfl, h⟩ := hv
    exact ⟨a, b, c, d, e, f, rfl, h.mono (fun k hk _ => hk)⟩
  clear hv
  have hv' := hv2
  obtain ⟨ka, kc, va, vc, ia, ic, rfl, h⟩ := hv2
  obtain ⟨i5, hi5, hz0, hz1, hz2⟩ := info_parts info5
  obtain ⟨hl, hsh, -⟩ := ND.check_zero hc
  have hsz : size = 512 ∨ size = 1024 ∨ size = 2048 ∨ size = 4096 := by simp only [sizeOk, Bool.or_eq_true, decide_eq_true_eq] at hs; omega
  have hsz1 : size ≤ 4096 := by omega
  clear hsz
  have HPF : Hid (∀ k, k ≤ n.keys.length → ((n.entTo k).length : Int) + 16 ≤ size) := fun k hk => Int.le_trans (ND.entTo_fit (ND.shape_form hsh) hk) hp
  have hkl : (n.keys.length : Int) + 16 ≤ size := by
    have := n.psumTo_ge n.keys.length
    have e : n.psumTo n.keys.length + 16 ≤ n.psize := by unfold ND.psize; split <;> omega
    omega
  have HM := Lib.hid (And.intro hsz1 hkl)
  have HKI : Hid (∀ x ∈ n.kids, 0 ≤ x ∧ x ≤ 4294967295) := by
    intro x hx
    have hsh' := hsh
    simp only [ND.shape, Bool.and_eq_true, List.all_eq_true] at hsh'
    have := hsh'.1.2 x hx
    simpa [kidOk] using this
  have HL := Lib.hid (And.intro hl (ND.form_leaf (ND.shape_form hsh) hf))
  have HLE := Lib.hid hf
  have hng : ¬ (size : Int) < n.rsize := by rw [← psize_rsize (ND.shape_form hsh)]; omega
  unfold nodeV
  unfold nodeV at hv'
  rw [hf]
  rw [hf] at hv'
  have kB : Bl w (w.alloc (.cells #[.bool true, .slice ka n.keys.length kc, .slice va n.values.length vc, .slice ia n.kids.length ic] 25)) := (Bl.refl w).alloc _
  have b1 : (w.alloc (.cells #[.bool true, .slice ka n.keys.length kc, .slice va n.values.length vc, .slice ia n.kids.length ic] 25)).heap[w.heap.size]? = some (.cells #[.bool true, .slice ka n.keys.length kc, .slice va n.values.length vc, .slice ia n.kids.length ic] 25 (0, 0)) := block_new _ _
  clear hsh hkl hsz1 hp
  have hne : (n.check != 0) = false := by rw [hc]; rfl
  go_enter Try.func17, Try.ntmps17
  go_wp2_with fail
  refine (rcheck_any _ _ _ n (hv'.bl kB) sm ln).mono ?_
  rw [hc]
  rintro e w2 ⟨rfl, k2⟩
  clear hne hc hf
  have b2 := below_keeps k2 b1 (lt_of_block b1)
  have lB := lt_of_block b2
  obtain ⟨x0, x1, x2, x3, -, -, -, -⟩ := cells4 b2
  go_wp2_with fail
  refine (power_any _ (size : Int)).mono ?_
  rw [hs]
  rintro e w3 ⟨rfl, rfl⟩
  clear hs
  go_wp2_with fail
  refine (rsize_any _ _ _ n (hv'.bl (kB.trans k2)) sm hl).mono ?_
  rintro e w4 ⟨rfl, k4⟩
  have b4 := below_keeps k4 b2 lB
  have lB4 := lt_of_block b4
  have hh := h.below ((kB.trans k2).trans k4)
  have kW4 := (kB.trans k2).trans k4
  have hz := kW4.size
  clear x0 x1 x2 x3 b1 b2 k2 k4 kB hl lB h hv'
  obtain ⟨M, hM⟩ : ∃ M, M = w4.heap.size := ⟨_, rfl⟩
  have hBM : w.heap.size < M := by omega
  have HMM := Lib.hid hM
  have FK : Hid (∀ w', Chg (fun j => M ≤ j) w4 w' → w'.cell? ⟨w.heap.size, 0, none⟩ = some (.bool true) ∧ w'.cell? ⟨w.heap.size, 1, none⟩ = some (.slice ka n.keys.length kc) ∧ w'.cell? ⟨w.heap.size, 2, none⟩ = some (.slice va n.values.length vc) ∧ w'.cell? ⟨w.heap.size, 3, none⟩ = some (.slice ia n.kids.length ic) ∧ w.heap.size < w'.heap.size) := fun w' kk => by
    have b5 := kk.keeps b4 (by omega)
    have bb := cells4 b5
    exact ⟨bb.1, bb.2.1, bb.2.2.1, bb.2.2.2.1, lt_of_block b5⟩
  have RK : Hid (∀ w', Chg (fun j => M ≤ j) w4 w' → NodeIn w' (fun k => k < w.heap.size) n ka kc va vc ia ic) := fun w' kk => hh.chg kk (fun k hk e => by omega)
  clear hM hh
  obtain ⟨x0, x1, x2, x3, -⟩ := FK.out w4 (Chg.refl _ _)
  go_wp2_with fail
  clear x0 x1 x2 x3 hng
  go_loopw [7, 9] (fun t i wr => ∃ (k : Nat) (a : Option Addr) (cap : Nat), k ≤ n.keys.length ∧ i = .int .i64 k ∧ t = .slice a (n.entTo k).length cap ∧ SlAt wr (fun j => M ≤ j) 5 1 (.slice a (n.entTo k).length cap) (n.entTo k).length (bcells (n.entTo k)) ∧ Chg (fun j => M ≤ j) w4 wr) (fun _ i _ => n.keys.length - (intOf i).toNat)
  case atStart => exact ⟨0, none, 0, by omega, rfl, by rw [ND.entTo, if_pos HLE.out]; rfl, by rw [ND.entTo, if_pos HLE.out]; exact SlAt.nil _ _ _ _ _, Chg.refl _ _⟩
  case round =>
    obtain ⟨k, a, cap, hk, rfl, rfl, hsl, hcr⟩ := hrel
    have i0 : (0 : Int) ≤ (k : Int) := by omega
    obtain ⟨x0, x1, x2, x3, lw⟩ := FK.out wr hcr
    by_cases hlt : k < n.keys.length
    · have i1 : (k : Int) < (n.keys.length : Int) := by omega
      have hk4 : n.keys.length ≤ 4096 := by have := HM.out; omega
      have hent : Hid (n.entTo (k + 1) = n.entTo k ++ n.ent k) := rfl
      have hfit := HPF.out (k + 1) (by omega)
      rw [hent.out, List.length_append, Int.natCast_add] at hfit
      obtain ⟨g, off, hka, hg0, hg, hc⟩ := RdAt.get (RK.out wr hcr).keys (by omega)
      have c1 := hc k _ (tcells_get hlt)
      clear hc
      have hkb : 1 ≤ n.keys[k].size ∧ n.keys[k].size ≤ 64 := by
        have := HL.out.1
        simp only [ND.lens, Bool.and_eq_true, List.all_eq_true] at this
        have := this.1 _ (List.getElem_mem hlt)
        simpa [keyOk] using this
      have hks : (n.keys[k].size : Int) ≤ 64 := by omega
      have hks0 : (0 : Int) ≤ (n.keys[k].size : Int) := by omega
      have HKB := Lib.hid hkb
      clear hkb
      subst hka
      have hvl : k < n.values.length := by have := HL.out.2.1; omega
      obtain ⟨g2, off2, hva, hgv0, hg2, hc2⟩ := RdAt.get (RK.out wr hcr).values (by omega)
      have c2 := hc2 k _ (tcells_get hvl)
      clear hc2
      have hvb : n.values[k].size ≤ 64 := by
        have := HL.out.1
        simp only [ND.lens, Bool.and_eq_true, List.all_eq_true] at this
        have := this.2 _ (List.getElem_mem hvl)
        simpa [valOk] using this
      have hvs : (n.values[k].size : Int) ≤ 64 := by omega
      have hvs0 : (0 : Int) ≤ (n.values[k].size : Int) := by omega
      have HVB := Lib.hid hvb
      clear hvb
      have iv : (k : Int) < (n.values.length : Int) := by omega
      subst hva
      have hE : n.ent k = be1 (n.keys[k].size : Int) ++ be1 (n.values[k].size : Int) ++ bts n.keys[k] ++ bts n.values[k] := by
        rw [ND.ent, if_pos HLE.out, txtAt_get hlt, txtAt_get hvl]
      rw [hE, List.length_append, List.length_append, List.length_append, bts_len, bts_len, be1_len, be1_len] at hfit
      have HFIT := Lib.hid hfit
      have HE := Lib.hid hE
      have nkM : ¬ M ≤ g := by show ¬ M ≤ g; have : g < w.heap.size := hg0; omega
      have nvM : ¬ M ≤ g2 := by show ¬ M ≤ g2; have : g2 < w.heap.size := hgv0; omega
      have hMr : M ≤ wr.heap.size := by have h1 := HMM.out; have h2 := hcr.size; omega
      have hN : (n.entTo k).length ≤ 4096 := by have h1 := HFIT.out; have h2 := HM.out; omega
      clear hE hfit
      go_wp2_with (first
        | (at_builtin; refine wpList_append_sl rfl (.tmp 55) (.tmp 63) 36 rfl 5 i5 (.int .u8 0) 1 1 Try.underlying36 hi5 hz0 hz1 hz2 rfl (fun j => M ≤ j) _ ((n.entTo k).length + 1) (bcells (n.entTo k) ++ bcells [(n.keys[k].size : Int)]) rfl ?_ (fun j => j = w5.heap.size) _ 1 (bcells [(n.values[k].size : Int)]) rfl ?_ (bcells_one _) ?_ ?_ ?_; exact (hs5.mono (fun j _ e => by rcases e with e | e; exact e; simp only [World.size_alloc] at e; omega)).below ((Bl.refl _).alloc _); exact rd_newG rfl rfl (by unfold maxLen; omega); (unfold maxLen; omega); omega; intro v6 w6 hs6 hc6; obtain ⟨a6, cap6, rfl⟩ := hs6.shape; (have hq6 : Chg (fun j => M ≤ j) w5 w6 := ((Chg.refl _ _).alloc _).trans hc6); (have hr6 := hr5.trans hq6); (have e1 := hq6.cellOf d1 nkM); (have e2 := hq6.cellOf d2 nvM))
        | (at_builtin; refine wpList_append_sl rfl (.tmp 43) (.tmp 51) 36 rfl 5 i5 (.int .u8 0) 1 1 Try.underlying36 hi5 hz0 hz1 hz2 rfl (fun j => M ≤ j) _ (n.entTo k).length (bcells (n.entTo k)) rfl ?_ (fun j => j = wr.heap.size) _ 1 (bcells [(n.keys[k].size : Int)]) rfl ?_ (bcells_one _) ?_ ?_ ?_; exact hsl.below ((Bl.refl _).alloc _); exact rd_newG rfl rfl (by unfold maxLen; omega); (unfold maxLen; omega); omega; intro v5 w5 hs5 hc5; obtain ⟨a5, cap5, rfl⟩ := hs5.shape; (have hq5 : Chg (fun j => M ≤ j) wr w5 := ((Chg.refl _ _).alloc _).trans hc5); (have hr5 := hcr.trans hq5); obtain ⟨y0, y1, y2, y3, lw5⟩ := FK.out w5 hr5; (have d1 := hq5.cellOf c1 nkM); (have d2 := hq5.cellOf c2 nvM); (have hM5 : M ≤ w5.heap.size := by have := hq5.size; omega)))
      have hM6 : M ≤ w6.heap.size := by have := hq6.size; omega
      have hs6' := hs6.mono (own2 := fun j => M ≤ j) (fun j _ e => by rcases e with e | e; exact e; simp only [World.size_alloc] at e; omega)
      obtain ⟨z0, z1, z2, z3, -⟩ := FK.out w6 hr6
      have KC : Hid (∀ w', Chg (fun j => M ≤ j) w6 w' → w'.cell? ⟨w.heap.size, 1, none⟩ = some (.slice (some ⟨g, off, none⟩) n.keys.length kc) ∧ w'.cell? ⟨w.heap.size, 2, none⟩ = some (.slice (some ⟨g2, off2, none⟩) n.values.length vc) ∧ w'.cell? ⟨g, off + k, none⟩ = some (.string n.keys[k]) ∧ w'.cell? ⟨g2, off2 + k, none⟩ = some (.string n.values[k])) := fun w' kk => by
        have q := FK.out w' (hr6.trans kk)
        exact ⟨q.2.1, q.2.2.1, kk.cellOf e1 nkM, kk.cellOf e2 nvM⟩
      go_region_held3 (fun w' => w'.cell? ⟨w.heap.size, 1, none⟩ = some (.slice (some ⟨g, off, none⟩) n.keys.length kc) ∧ w'.cell? ⟨w.heap.size, 2, none⟩ = some (.slice (some ⟨g2, off2, none⟩) n.values.length vc) ∧ w'.cell? ⟨g, off + k, none⟩ = some (.string n.keys[k]) ∧ w'.cell? ⟨g2, off2 + k, none⟩ = some (.string n.values[k])) (first | exact KC.out _ ((Chg.refl _ _).drew) | exact KC.out _ hr7 | exact KC.out _ hr8)
        ((first | (refine step_append_str rfl (.tmp 71) (.tmp 76) 36 9 rfl 5 i5 (.int .u8 0) Try.underlying36 Try.underlying9 hi5 hz0 hz1 hz2 rfl (fun j => M ≤ j) _ ((n.entTo k).length + 1 + 1 + n.keys[k].size) (bcells (n.entTo k) ++ bcells [(n.keys[k].size : Int)] ++ bcells [(n.values[k].size : Int)] ++ Lib.strCells n.keys[k]) rfl ?_ n.values[k] rfl ?_ ?_ ?_; exact hs7'; (unfold maxLen; have := HKB.out; have := HVB.out; omega); (have := HKB.out; have := HVB.out; omega); intro v8 w8 hs8 hc8; obtain ⟨a8, cap8, rfl⟩ := hs8.shape; (have hr8 := hr7.trans hc8)) | (refine step_append_str rfl (.tmp 65) (.tmp 70) 36 9 rfl 5 i5 (.int .u8 0) Try.underlying36 Try.underlying9 hi5 hz0 hz1 hz2 rfl (fun j => M ≤ j) _ ((n.entTo k).length + 1 + 1) (bcells (n.entTo k) ++ bcells [(n.keys[k].size : Int)] ++ bcells [(n.values[k].size : Int)]) rfl ?_ n.keys[k] rfl ?_ ?_ ?_; exact hs6'.below ((Bl.refl _).drew); (unfold maxLen; have := HKB.out; omega); (have := HKB.out; omega); intro v7 w7 hs7 hc7; obtain ⟨a7, cap7, rfl⟩ := hs7.shape; (have hr7 : Chg (fun j => M ≤ j) w6 w7 := ((Chg.refl _ _).drew).trans hc7); (have hs7' := hs7.mono (own2 := fun j => M ≤ j) (fun j _ e => by rcases e with e | e; exact e; simp only [World.size_drew] at e; omega)))))
      all_goals
        go_wp2_with fail
        have hlen : (n.entTo (k + 1)).length = (n.entTo k).length + 1 + 1 + n.keys[k].size + n.values[k].size := by rw [hent.out, HE.out]; simp [be1_len, bts_len]; omega
        have hcl : bcells (n.entTo k) ++ bcells [(n.keys[k].size : Int)] ++ bcells [(n.values[k].size : Int)] ++ Lib.strCells n.keys[k] ++ Lib.strCells n.values[k] = bcells (n.entTo (k + 1)) := by
          rw [hent.out, HE.out, strCells_bts, strCells_bts]
          simp only [bcells_append, be1, List.append_assoc]
        have hM7 : M ≤ w7.heap.size := by have := hr7.size; omega
        rw [hcl] at hs8
        go_roundw
        case rel =>
          refine ⟨k + 1, a8, cap8, by omega, by go_num, by rw [hlen], ?_, hr6.trans hr8⟩
          rw [hlen]
          exact hs8.mono (fun j _ e => by rcases e with e | e; exact e; omega)
        case measure => simp [intOf]; omega
    · obtain rfl : k = n.keys.length := by omega
      have hbd : n.entTo n.keys.length = n.body := rfl
      have hbl := HPF.out n.keys.length (Nat.le_refl _)
      rw [hbd] at hsl hbl ⊢
      have HBL := Lib.hid hbl
      have hMr : M ≤ wr.heap.size := by have h1 := HMM.out; have h2 := hcr.size; omega
      have hkl : (n.keys.length : Int) ≤ 65535 := by have := HM.out; omega
      have hbb : (n.body.length : Int) ≤ 4294967295 := by have := HM.out; omega
      have hbb0 : (0 : Int) ≤ (n.body.length : Int) := by omega
      have hbb1 : n.body.length ≤ 4096 := by have := HM.out; omega
      clear hbl hbd
      have hsl' := hsl.mono (own2 := fun j => M ≤ j ∧ j < wr.heap.size) (fun j hj e => ⟨e, hj⟩)
      obtain ⟨M2, hM2⟩ : ∃ M2, M2 = wr.heap.size := ⟨_, rfl⟩
      have HM2 := Lib.hid hM2
      have FB : Hid (∀ w', Chg (fun j => M2 ≤ j) wr w' → SlAt w' (fun j => M ≤ j ∧ j < wr.heap.size) 5 1 (.slice a n.body.length cap) n.body.length (bcells n.body)) := fun w' kk => hsl'.chg kk (fun j e => by have h1 := HM2.out; omega)
      have FX : Hid (∀ w', Chg (fun j => M2 ≤ j) wr w' → Chg (fun j => M ≤ j) w4 w') := fun w' kk => hcr.trans (kk.mono (fun j _ e => by have h1 := HM2.out; omega))
      clear hsl' hM2
      have hcs := fun (w : World) (C : Array Value) (n c : Nat) => Lib.run_convert_bytes_const (P := Try.prog) w 36 5 C n c Try.underlying36 Try.underlying5
      have hm20 : M2 ≤ wr.heap.size := by have := HM2.out; omega
      go_wp2_with (at_builtin; refine wpList_append_full rfl (.tmp 95) (.tmp 97) 36 rfl 5 i5 (.int .u8 0) 1 1 Try.underlying36 hi5 hz0 hz1 hz2 rfl wr.heap.size 0 4 (bcells (bts magic)) rfl rfl ?_ (fun j => j = wr.heap.size + 1) _ 2 (bcells [1, 0]) rfl ?_ (by decide) ?_ ?_ ?_; exact marked_cells wr _; exact rd_newG (cs := bcells [1, 0]) (by simp) rfl (by unfold maxLen; omega); (unfold maxLen; omega); omega; intro v5 w5 hs5 hc5; obtain ⟨a5, cap5, rfl⟩ := hs5.shape; (have hq5 : Chg (fun j => M2 ≤ j) wr w5 := (((Chg.refl _ _).alloc _).alloc _).trans (Chg.of_below hc5)); obtain ⟨y0, y1, y2, y3, ly⟩ := FK.out w5 (FX.out w5 hq5))
      have hm25 : M2 ≤ w5.heap.size := by have := hq5.size; omega
      have hs5' := hs5.mono (own2 := fun j => M2 ≤ j) (fun j _ e => by simp only [World.size_alloc] at e; omega)
      clear hs5 hc5 y0 y1 y2 y3 ly
      refine (high2_any w5 n.keys.length (by omega) hkl).mono ?_
      rintro e w6 ⟨⟨g6, rfl, hg6, hx6⟩, k6⟩
      have hs6 := hs5'.below k6
      have hq6 : Chg (fun j => M2 ≤ j) wr w6 := hq5.trans (Chg.of_below k6)
      have hm26 : M2 ≤ w6.heap.size := by have := hq6.size; omega
      clear hs5' k6
      go_wp2_with (at_builtin; refine wpList_append_sl rfl (.tmp 99) (.tmp 104) 36 rfl 5 i5 (.int .u8 0) 1 1 Try.underlying36 hi5 hz0 hz1 hz2 rfl (fun j => M2 ≤ j) _ (4 + 2) (bcells (bts magic) ++ bcells [1, 0]) rfl hs6 _ _ 2 (bcells (be2 n.keys.length)) rfl hx6 (bcells_one _) ?_ ?_ ?_; (unfold maxLen; omega); omega; intro v7 w7 hs7 hc7; obtain ⟨a7, cap7, rfl⟩ := hs7.shape)
      have hq7 := hq6.trans hc7
      have hm27 : M2 ≤ w7.heap.size := by have := hq7.size; omega
      have hs7' := hs7.mono (own2 := fun j => M2 ≤ j) (fun j _ e => by rcases e with e | e; exact e; omega)
      clear hs7 hs6 hc7 hx6
      refine (high4_any w7 n.body.length (by omega) hbb).mono ?_
      rintro e w8 ⟨⟨g8, rfl, hg8, hx8⟩, k8⟩
      have hs8 := hs7'.below k8
      have hq8 : Chg (fun j => M2 ≤ j) wr w8 := hq7.trans (Chg.of_below k8)
      have hm28 : M2 ≤ w8.heap.size := by have := hq8.size; omega
      clear hs7' k8
      have hsh0 : (strOfNums n.head).size = 12 := by rw [strOfNums_size, ND.head_len]
      have hssz : (strOfNums n.body).size = n.body.length := strOfNums_size _
      go_wp2_with (at_builtin; refine wpList_append_sl rfl (.tmp 105) (.tmp 109) 36 rfl 5 i5 (.int .u8 0) 1 1 Try.underlying36 hi5 hz0 hz1 hz2 rfl (fun j => M2 ≤ j) _ (4 + 2 + 2) (bcells (bts magic) ++ bcells [1, 0] ++ bcells (be2 n.keys.length)) rfl hs8 _ _ 4 (bcells (be4 n.body.length)) rfl hx8 (bcells_one _) ?_ ?_ ?_; (unfold maxLen; omega); omega; intro v9 w9 hs9 hc9; obtain ⟨a9, cap9, rfl⟩ := hs9.shape; (have hq9 := hq8.trans hc9); (have hs9' : SlAt w9 (fun j => M2 ≤ j) 5 1 (.slice a9 n.head.length cap9) n.head.length (bcells n.head) := headOf_true HLE.out (hs9.mono (own2 := fun j => M2 ≤ j) (fun j _ e => by rcases e with e | e; exact e; omega))); (have hcv1 : (convert 36 9 (.slice a9 (4 + 2 + 2 + 4) cap9)).run Try.prog w9 = .ok (.string (strOfNums n.head)) w9 := conv_str w9 _ _ n.head hs9'.rd); (have hcv2 := conv_str w9 _ _ n.body (FB.out w9 hq9).rd))
      have hcz : (strOfNums n.head ++ strOfNums n.body).size ≤ 1073741824 := by rw [ByteArray.size_append, hsh0, hssz]; omega
      refine (refcrc_any _ _ hcz).mono ?_
      rintro e wa ⟨rfl, rfl⟩
      have hcr' := hcr
      have hcr := crcOf_in (strOfNums n.head ++ strOfNums n.body)
      have HCR : Hid (crcOf (strOfNums n.head ++ strOfNums n.body) = n.crc) := rfl
      rw [HCR.out] at hcr ⊢
      obtain ⟨hcr0, hcr1⟩ := hcr
      clear hcz hcv1 hcv2
      have hsz4 : size ≤ 4096 := HM.out.1
      have hmk : ∀ u : World, (Instr.makeSlice 36 (.int .i64 size) (.int .i64 size)).run Try.prog u = .ok (.slice (some ⟨u.heap.size, 0, none⟩) size size) (u.alloc (.cells (bcells (List.replicate size 0)).toArray 5)) := fun u => by
        have h := run_make (P := Try.prog) u 36 5 i5 (.int .u8 0) Try.underlying36 hi5 hz0 .i64 .i64 (size : Int) (size : Int) (by omega) (Int.le_refl _) (by rw [hz2]; omega) (by omega)
        rw [hz1, Nat.mul_one] at h
        rw [← madeCells_zeros]
        exact h
      have hrs : (0 : Int) ≤ (size : Int) := by omega
      go_wp2_with fail
      have hs9c := hs9'.mono (own2 := fun j => M2 ≤ j ∧ j < wa.heap.size) (fun j hj e => ⟨e, hj⟩)
      have kz : Bl wa (wa.alloc (.cells (bcells (List.replicate size 0)).toArray 5)) := (Bl.refl _).alloc _
      have bD0 : (wa.alloc (.cells (bcells (List.replicate size 0)).toArray 5)).heap[wa.heap.size]? = some (.cells (bcells (List.replicate size 0)).toArray 5 (0, 0)) := block_new _ _
      have lD0 := lt_of_block bD0
      have hm2a : M2 ≤ wa.heap.size := by have := hq9.size; omega
      refine (high4_any _ n.crc hcr0 hcr1).mono ?_
      rintro e wb ⟨⟨gb, rfl, hgb, hxb⟩, kb⟩
      have bDb := below_keeps kb bD0 lD0
      have lDb := lt_of_block bDb
      have hsb := (hs9c.below kz).below kb
      have hqb : Chg (fun j => M2 ≤ j) wr wb := (hq9.trans (Chg.of_below kz)).trans (Chg.of_below kb)
      have hmb : M2 ≤ wb.heap.size := by omega
      clear hs9 hs9' hs9c hcr0 hcr1 hmk hsh0 hssz
      go_wp2_with (first
        | (at_builtin; refine wpList_append_sl rfl (.tmp 124) (.tmp 125) 36 rfl 5 i5 (.int .u8 0) 1 1 Try.underlying36 hi5 hz0 hz1 hz2 rfl _ _ (12 + 4) (bcells n.head ++ bcells (be4 n.crc)) rfl hsd _ _ n.body.length (bcells n.body) rfl (FB.out wd hqd).rd (bcells_one _) ?_ ?_ ?_; (unfold maxLen; omega); omega; intro ve we hse hce; obtain ⟨ae, cape, rfl⟩ := hse.shape; (have bDe := hce.keeps bDd (fun e => by rcases e with e | e; exact absurd e.2 (by omega); omega)); (have hqe : Chg (fun j => M2 ≤ j) wr we := hqd.trans (hce.mono (fun j _ e => by rcases e with e | e; exact e.1; omega))))
        | (at_builtin; refine wpList_append_sl rfl (.tmp 120) (.tmp 123) 36 rfl 5 i5 (.int .u8 0) 1 1 Try.underlying36 hi5 hz0 hz1 hz2 rfl _ _ 12 (bcells n.head) rfl hsb _ _ 4 (bcells (be4 n.crc)) rfl hxb (bcells_one _) ?_ ?_ ?_; (unfold maxLen; omega); omega; intro vd wd hsd hcd; obtain ⟨ad, capd, rfl⟩ := hsd.shape; (have bDd := hcd.keeps bDb (fun e => absurd e.2 (by omega))); (have hqd : Chg (fun j => M2 ≤ j) wr wd := hqb.trans (hcd.mono (fun j _ e => e.1))))
        | (refine wpList_copy_sl rfl (.tmp 119) (.tmp 126) 36 36 rfl 5 i5 Try.underlying36 hi5 hz1 _ _ (12 + 4 + n.body.length) (bcells n.head ++ bcells (be4 n.crc) ++ bcells n.body) rfl hse.rd (by intro u hu; rw [← bcells_append, ← bcells_append] at hu; exact bcells_one _ u hu) (some ⟨wa.heap.size, 0, none⟩) wa.heap.size 0 size size (bcells (List.replicate size 0)).toArray 5 rfl (fun _ => ⟨rfl, bDe, by have h1 := HBL.out; simp; exact Nat.min_le_right _ _⟩) ?_; intro wf hf1 hf2 hcf))
      go_ret2
      have hmin : Nat.min (12 + 4 + n.body.length) size = 12 + 4 + n.body.length := Nat.min_eq_left (by have := HBL.out; omega)
      rw [hmin] at hf1
      have hf3 := hf1 (by omega)
      have hcells : (splice (bcells (List.replicate size 0)).toArray.toList 0 ((bcells n.head ++ bcells (be4 n.crc) ++ bcells n.body).take (12 + 4 + n.body.length))) = bcells (n.out size) := by
        have hl3 : (bcells n.head ++ bcells (be4 n.crc) ++ bcells n.body).length = 12 + 4 + n.body.length := by rw [List.length_append, List.length_append, bcells_len, bcells_len, bcells_len, ND.head_len, be4_len]
        rw [← hl3, List.take_length, splice, hl3, ND.out, ND.enc_bts HL.out.1, bcells_append]
        have he : n.enc = n.head ++ be4 n.crc ++ n.body := by rw [ND.enc, bts_str (ND.body_ok HL.out.1)]
        rw [he, bcells_append, bcells_append]
        have hl4 : (n.head ++ be4 n.crc ++ n.body).length = 12 + 4 + n.body.length := by rw [List.length_append, List.length_append, ND.head_len, be4_len]
        rw [hl4]
        simp [bcells, List.map_replicate]
      rw [hcells] at hf3
      have hol : (n.out size).length = size := ND.out_len (by rw [ND.enc_len]; have := HBL.out; omega)
      have hB0 : w.heap.size ≤ wa.heap.size := by have h1 := HM2.out; omega
      refine ⟨⟨_, rfl, by rw [bcells_len, hol, Nat.mul_one], _, _, rfl, Nat.le_refl _, by unfold maxLen; omega, fun _ => ⟨wa.heap.size, 0, rfl, hB0, lt_of_block hf3, fun j u hj => ?_⟩⟩, ?_⟩
      · rw [cell_of_block hf3]
        simpa using hj
      · refine Below.trans kW4 ?_
        exact (((FX.out we hqe).trans (hcf.mono (own2 := fun j => M ≤ j) (fun j _ e => by have h1 := HM2.out; omega))).below (by omega) (fun i hi e => by omega))
set_option maxRecDepth 100000 in
set_option maxHeartbeats 8000000 in
theorem rencode_ok_false (w : World) (own : Nat → Prop) (v : Value) (n : ND) (size : Nat) (hv : NodeAt w own v n) (sm : n.Small) (ln : n.Lens) (hc : n.check = 0) (hf : n.leaf = false) (hs : sizeOk size = true) (hp : n.psize ≤ size) :
    Calls Try.prog 17 #[.int .i64 size, v] w fun e w' => (∃ x, e = .returned (.tuple #[x, .int .i64 0]) ∧ RdAt w' (fun k => w.heap.size ≤ k) 1 x size (bcells (n.out size))) ∧ Bl w w' := by
  have hv2 : NodeAt w (fun k => k < w.heap.size) v n := by
    obtain ⟨a, b, c, d, e, f, rfl, h⟩ := hv
    exact ⟨a, b, c, d, e, f, rfl, h.mono (fun k hk _ => hk)⟩
  clear hv
  have hv' := hv2
  obtain ⟨ka, kc, va, vc, ia, ic, rfl, h⟩ := hv2
  obtain ⟨i5, hi5, hz0, hz1, hz2⟩ := info_parts info5
  obtain ⟨hl, hsh, -⟩ := ND.check_zero hc
  have hsz : size = 512 ∨ size = 1024 ∨ size = 2048 ∨ size = 4096 := by simp only [sizeOk, Bool.or_eq_true, decide_eq_true_eq] at hs; omega
  have hsz1 : size ≤ 4096 := by omega
  clear hsz
  have HPF : Hid (∀ k, k ≤ n.keys.length → ((n.entTo k).length : Int) + 16 ≤ size) := fun k hk => Int.le_trans (ND.entTo_fit (ND.shape_form hsh) hk) hp
  have hkl : (n.keys.length : Int) + 16 ≤ size := by
    have := n.psumTo_ge n.keys.length
    have e : n.psumTo n.keys.length + 16 ≤ n.psize := by unfold ND.psize; split <;> omega
    omega
  have HM := Lib.hid (And.intro hsz1 hkl)
  have HKI : Hid (∀ x ∈ n.kids, 0 ≤ x ∧ x ≤ 4294967295) := by
    intro x hx
    have hsh' := hsh
    simp only [ND.shape, Bool.and_eq_true, List.all_eq_true] at hsh'
    have := hsh'.1.2 x hx
    simpa [kidOk] using this
  have HL := Lib.hid (And.intro hl (ND.form_inner (ND.shape_form hsh) hf))
  have HLE := Lib.hid hf
  have hng : ¬ (size : Int) < n.rsize := by rw [← psize_rsize (ND.shape_form hsh)]; omega
  unfold nodeV
  unfold nodeV at hv'
  rw [hf]
  rw [hf] at hv'
  have kB : Bl w (w.alloc (.cells #[.bool false, .slice ka n.keys.length kc, .slice va n.values.length vc, .slice ia n.kids.length ic] 25)) := (Bl.refl w).alloc _
  have b1 : (w.alloc (.cells #[.bool false, .slice ka n.keys.length kc, .slice va n.values.length vc, .slice ia n.kids.length ic] 25)).heap[w.heap.size]? = some (.cells #[.bool false, .slice ka n.keys.length kc, .slice va n.values.length vc, .slice ia n.kids.length ic] 25 (0, 0)) := block_new _ _
  clear hsh hkl hsz1 hp
  have hne : (n.check != 0) = false := by rw [hc]; rfl
  go_enter Try.func17, Try.ntmps17
  go_wp2_with fail
  refine (rcheck_any _ _ _ n (hv'.bl kB) sm ln).mono ?_
  rw [hc]
  rintro e w2 ⟨rfl, k2⟩
  clear hne hc hf
  have b2 := below_keeps k2 b1 (lt_of_block b1)
  have lB := lt_of_block b2
  obtain ⟨x0, x1, x2, x3, -, -, -, -⟩ := cells4 b2
  go_wp2_with fail
  refine (power_any _ (size : Int)).mono ?_
  rw [hs]
  rintro e w3 ⟨rfl, rfl⟩
  clear hs
  go_wp2_with fail
  refine (rsize_any _ _ _ n (hv'.bl (kB.trans k2)) sm hl).mono ?_
  rintro e w4 ⟨rfl, k4⟩
  have b4 := below_keeps k4 b2 lB
  have lB4 := lt_of_block b4
  have hh := h.below ((kB.trans k2).trans k4)
  have kW4 := (kB.trans k2).trans k4
  have hz := kW4.size
  clear x0 x1 x2 x3 b1 b2 k2 k4 kB hl lB h hv'
  obtain ⟨M, hM⟩ : ∃ M, M = w4.heap.size := ⟨_, rfl⟩
  have hBM : w.heap.size < M := by omega
  have HMM := Lib.hid hM
  have FK : Hid (∀ w', Chg (fun j => M ≤ j) w4 w' → w'.cell? ⟨w.heap.size, 0, none⟩ = some (.bool false) ∧ w'.cell? ⟨w.heap.size, 1, none⟩ = some (.slice ka n.keys.length kc) ∧ w'.cell? ⟨w.heap.size, 2, none⟩ = some (.slice va n.values.length vc) ∧ w'.cell? ⟨w.heap.size, 3, none⟩ = some (.slice ia n.kids.length ic) ∧ w.heap.size < w'.heap.size) := fun w' kk => by
    have b5 := kk.keeps b4 (by omega)
    have bb := cells4 b5
    exact ⟨bb.1, bb.2.1, bb.2.2.1, bb.2.2.2.1, lt_of_block b5⟩
  have RK : Hid (∀ w', Chg (fun j => M ≤ j) w4 w' → NodeIn w' (fun k => k < w.heap.size) n ka kc va vc ia ic) := fun w' kk => hh.chg kk (fun k hk e => by omega)
  clear hM hh
  obtain ⟨x0, x1, x2, x3, -⟩ := FK.out w4 (Chg.refl _ _)
  have HKL : Hid (n.kids.length = n.keys.length + 1) := HL.out.2.1
  have hkl0 : 0 < n.kids.length := by have := HKL.out; omega
  obtain ⟨g0, off0, hia, hgi0, _, hc⟩ := RdAt.get (RK.out w4 (Chg.refl _ _)).kids hkl0
  have c0 := hc 0 _ (icells_get hkl0)
  rw [Nat.add_zero] at c0
  clear hc
  obtain ⟨hk00, hk01⟩ := HKI.out _ (List.getElem_mem hkl0)
  have ii : (0 : Int) < (n.kids.length : Int) := by omega
  have hMw4 : M ≤ w4.heap.size := by have := HMM.out; omega
  subst hia
  go_wp2_with fail
  refine (high4_any w4 n.kids[0] hk00 hk01).mono ?_
  rintro e w5 ⟨⟨g5, rfl, hg5, hx5⟩, k5⟩
  have hM5 : M ≤ w5.heap.size := by have := k5.size; omega
  clear x0 x1 x2 x3 c0 hk00 hk01
  go_wp2_with (at_builtin; refine wpList_append_sl rfl (.tmp 28) (.tmp 34) 36 rfl 5 i5 (.int .u8 0) 1 1 Try.underlying36 hi5 hz0 hz1 hz2 rfl (fun j => M ≤ j) _ 0 [] rfl (SlAt.nil _ _ _ _ _) _ _ 4 (bcells (be4 n.kids[0])) rfl hx5 (bcells_one _) ?_ ?_ ?_; (unfold maxLen; omega); omega; intro v6 w6 hs6 hc6; rw [Nat.zero_add, List.nil_append] at hs6; obtain ⟨a6, cap6, rfl⟩ := hs6.shape; (have hr6 : Chg (fun j => M ≤ j) w4 w6 := (Chg.of_below k5).trans hc6); obtain ⟨x0, x1, x2, x3, -⟩ := FK.out w6 hr6)
  clear x0 x1 x2 x3 hng
  go_loopw [7, 9] (fun t i wr => ∃ (k : Nat) (a : Option Addr) (cap : Nat), k ≤ n.keys.length ∧ i = .int .i64 k ∧ t = .slice a (n.entTo k).length cap ∧ SlAt wr (fun j => M ≤ j) 5 1 (.slice a (n.entTo k).length cap) (n.entTo k).length (bcells (n.entTo k)) ∧ Chg (fun j => M ≤ j) w4 wr) (fun _ i _ => n.keys.length - (intOf i).toNat)
  case atStart => exact ⟨0, a6, cap6, by omega, rfl, by rw [ND.entTo, if_neg (by rw [HLE.out]; decide)]; rfl, by rw [ND.entTo, if_neg (by rw [HLE.out]; decide), kidAt_get hkl0]; exact hs6.mono (fun j _ e => by rcases e with e | e; exact e; omega), hr6⟩
  case round =>
    obtain ⟨k, a, cap, hk, rfl, rfl, hsl, hcr⟩ := hrel
    have i0 : (0 : Int) ≤ (k : Int) := by omega
    obtain ⟨x0, x1, x2, x3, lw⟩ := FK.out wr hcr
    by_cases hlt : k < n.keys.length
    · have i1 : (k : Int) < (n.keys.length : Int) := by omega
      have hk4 : n.keys.length ≤ 4096 := by have := HM.out; omega
      have hent : Hid (n.entTo (k + 1) = n.entTo k ++ n.ent k) := rfl
      have hfit := HPF.out (k + 1) (by omega)
      rw [hent.out, List.length_append, Int.natCast_add] at hfit
      obtain ⟨g, off, hka, hg0, hg, hc⟩ := RdAt.get (RK.out wr hcr).keys (by omega)
      have c1 := hc k _ (tcells_get hlt)
      clear hc
      have hkb : 1 ≤ n.keys[k].size ∧ n.keys[k].size ≤ 64 := by
        have := HL.out.1
        simp only [ND.lens, Bool.and_eq_true, List.all_eq_true] at this
        have := this.1 _ (List.getElem_mem hlt)
        simpa [keyOk] using this
      have hks : (n.keys[k].size : Int) ≤ 64 := by omega
      have hks0 : (0 : Int) ≤ (n.keys[k].size : Int) := by omega
      have HKB := Lib.hid hkb
      clear hkb
      subst hka
      have hkl : k + 1 < n.kids.length := by have := HKL.out; omega
      obtain ⟨g2, off2, hia, hgv0, hg2, hc2⟩ := RdAt.get (RK.out wr hcr).kids (by omega)
      have c2 := hc2 (k + 1) _ (icells_get hkl)
      clear hc2
      obtain ⟨hkk0, hkk1⟩ := HKI.out _ (List.getElem_mem hkl)
      have iv : (k : Int) + 1 < (n.kids.length : Int) := by omega
      have iv0 : (0 : Int) ≤ (k : Int) + 1 := by omega
      have iv1 : n.kids.length ≤ 4097 := by have := HKL.out; omega
      have hkw : IntKind.u64.wrap n.kids[k + 1] = n.kids[k + 1] := IntWalk.u64_in _ ⟨by omega, by omega⟩
      have iw : IntKind.i64.wrap ((k : Int) + 1) = (k : Int) + 1 := IntWalk.i64_in _ (by omega)
      injection hia with hia
      injection hia with hia1 hia2
      subst hia1
      subst hia2
      have hE : n.ent k = be1 (n.keys[k].size : Int) ++ bts n.keys[k] ++ be4 n.kids[k + 1] := by
        rw [ND.ent, if_neg (by rw [HLE.out]; decide), txtAt_get hlt, kidAt_get hkl]
      rw [hE, List.length_append, List.length_append, bts_len, be1_len, be4_len] at hfit
      have HFIT := Lib.hid hfit
      have HE := Lib.hid hE
      have nkM : ¬ M ≤ g := by have : g < w.heap.size := hg0; omega
      have nvM : ¬ M ≤ g0 := by have : g0 < w.heap.size := hgv0; omega
      have hMr : M ≤ wr.heap.size := by have h1 := HMM.out; have h2 := hcr.size; omega
      have hN : (n.entTo k).length ≤ 4096 := by have h1 := HFIT.out; have h2 := HM.out; omega
      clear hE hfit
      go_wp2_with (at_builtin; refine wpList_append_sl rfl (.tmp 43) (.tmp 51) 36 rfl 5 i5 (.int .u8 0) 1 1 Try.underlying36 hi5 hz0 hz1 hz2 rfl (fun j => M ≤ j) _ (n.entTo k).length (bcells (n.entTo k)) rfl ?_ (fun j => j = wr.heap.size) _ 1 (bcells [(n.keys[k].size : Int)]) rfl ?_ (bcells_one _) ?_ ?_ ?_; exact hsl.below ((Bl.refl _).alloc _); exact rd_newG rfl rfl (by unfold maxLen; omega); (unfold maxLen; omega); omega; intro v5 w5 hs5 hc5; obtain ⟨a5, cap5, rfl⟩ := hs5.shape; (have hq5 : Chg (fun j => M ≤ j) wr w5 := ((Chg.refl _ _).alloc _).trans hc5); (have hr5 := hcr.trans hq5); obtain ⟨y0, y1, y2, y3, lw5⟩ := FK.out w5 hr5; (have d1 := hq5.cellOf c1 nkM); (have d2 := hq5.cellOf c2 nvM); (have hM5 : M ≤ w5.heap.size := by have := hq5.size; omega))
      have hs5c := (hs5.mono (own2 := fun j => M ≤ j) (fun j _ e => by rcases e with e | e; exact e; simp only [World.size_alloc] at e; omega)).mono (own2 := fun j => M ≤ j ∧ j < w5.heap.size) (fun j hj e => ⟨e, hj⟩)
      have KC : Hid (∀ w', Chg (fun j => M ≤ j) w5 w' → w'.cell? ⟨w.heap.size, 1, none⟩ = some (.slice (some ⟨g, off, none⟩) n.keys.length kc) ∧ w'.cell? ⟨w.heap.size, 3, none⟩ = some (.slice (some ⟨g0, off0, none⟩) n.kids.length ic) ∧ w'.cell? ⟨g, off + k, none⟩ = some (.string n.keys[k]) ∧ w'.cell? ⟨g0, off0 + (k + 1), none⟩ = some (.int .i64 n.kids[k + 1])) := fun w' kk => by
        have q := FK.out w' (hr5.trans kk)
        exact ⟨q.2.1, q.2.2.2.1, kk.cellOf d1 nkM, kk.cellOf d2 nvM⟩
      go_region_held3 (fun w' => w'.cell? ⟨w.heap.size, 1, none⟩ = some (.slice (some ⟨g, off, none⟩) n.keys.length kc) ∧ w'.cell? ⟨w.heap.size, 3, none⟩ = some (.slice (some ⟨g0, off0, none⟩) n.kids.length ic) ∧ w'.cell? ⟨g, off + k, none⟩ = some (.string n.keys[k]) ∧ w'.cell? ⟨g0, off0 + (k + 1), none⟩ = some (.int .i64 n.kids[k + 1])) (exact KC.out _ (by ((repeat (first | with_reducible exact Chg.refl _ _ | with_reducible refine Chg.drew ?_ | with_reducible refine Chg.trans ?_ hc9' | with_reducible refine Chg.trans ?_ (Chg.of_below k7) | with_reducible refine Chg.trans ?_ hc8')); done))) ((first | (go_at_call 49; refine (high4_any _ n.kids[k + 1] hkk0 hkk1).mono ?_; rintro e w7 ⟨⟨g7, rfl, hg7, hx7⟩, k7⟩; (have s7 : M ≤ w7.heap.size := by (have z := k7.size; (try simp only [World.size_drew] at z); omega))) | (refine step_append_sl rfl (.tmp 84) (.tmp 92) 36 rfl 5 i5 (.int .u8 0) 1 1 Try.underlying36 hi5 hz0 hz1 hz2 rfl _ _ ((n.entTo k).length + 1 + n.keys[k].size) (bcells (n.entTo k) ++ bcells [(n.keys[k].size : Int)] ++ Lib.strCells n.keys[k]) rfl (hs8.below k7) _ _ 4 (bcells (be4 n.kids[k + 1])) rfl hx7 (bcells_one _) ?_ ?_ ?_; (unfold maxLen; have := HKB.out; omega); (have := HKB.out; omega); intro v9 w9 hs9 hc9; obtain ⟨a9, cap9, rfl⟩ := hs9.shape; (have hc9' := hc9.mono (own2 := fun j => M ≤ j) (fun j _ e => by rcases e with e | e; exact e.1; (try simp only [World.size_drew] at e); omega))) | (refine step_append_sl rfl (.tmp 84) (.tmp 92) 36 rfl 5 i5 (.int .u8 0) 1 1 Try.underlying36 hi5 hz0 hz1 hz2 rfl _ _ ((n.entTo k).length + 1 + n.keys[k].size) (bcells (n.entTo k) ++ bcells [(n.keys[k].size : Int)] ++ Lib.strCells n.keys[k]) rfl hs8 _ _ 4 (bcells (be4 n.kids[k + 1])) rfl (hx7.chg hc8 (fun j e f => by (try simp only [World.size_drew] at e); omega)) (bcells_one _) ?_ ?_ ?_; (unfold maxLen; have := HKB.out; omega); (have := HKB.out; omega); intro v9 w9 hs9 hc9; obtain ⟨a9, cap9, rfl⟩ := hs9.shape; (have hc9' := hc9.mono (own2 := fun j => M ≤ j) (fun j _ e => by rcases e with e | e; exact e.1; (try simp only [World.size_drew] at e); omega))) | (refine step_append_str rfl (.tmp 78) (.tmp 83) 36 9 rfl 5 i5 (.int .u8 0) Try.underlying36 Try.underlying9 hi5 hz0 hz1 hz2 rfl (fun j => M ≤ j ∧ j < w5.heap.size) _ ((n.entTo k).length + 1) (bcells (n.entTo k) ++ bcells [(n.keys[k].size : Int)]) rfl (hs5c.below (by ((repeat (first | with_reducible exact Bl.refl _ | with_reducible refine Bl.trans ?_ k7 | with_reducible refine Bl.drew ?_)); done))) n.keys[k] rfl ?_ ?_ ?_; (unfold maxLen; have := HKB.out; omega); (have := HKB.out; omega); intro v8 w8 hs8 hc8; obtain ⟨a8, cap8, rfl⟩ := hs8.shape; (have hc8' := hc8.mono (own2 := fun j => M ≤ j) (fun j _ e => e.1)); (have s8 : M ≤ w8.heap.size := by (have z := hc8.size; (try simp only [World.size_drew] at z); omega)))))
      all_goals
        go_wp2_with fail
        have hlen : (n.entTo (k + 1)).length = (n.entTo k).length + 1 + n.keys[k].size + 4 := by rw [hent.out, HE.out]; simp [be1_len, be4_len, bts_len]; omega
        have hcl : bcells (n.entTo k) ++ bcells [(n.keys[k].size : Int)] ++ Lib.strCells n.keys[k] ++ bcells (be4 n.kids[k + 1]) = bcells (n.entTo (k + 1)) := by
          rw [hent.out, HE.out, strCells_bts]
          simp only [bcells_append, be1, List.append_assoc]
        rw [hcl] at hs9
        have hr9 : Chg (fun j => M ≤ j) w4 w9 := hr5.trans (by ((repeat (first | with_reducible exact Chg.refl _ _ | with_reducible refine Chg.drew ?_ | with_reducible refine Chg.trans ?_ hc9' | with_reducible refine Chg.trans ?_ (Chg.of_below k7) | with_reducible refine Chg.trans ?_ hc8')); done))
        go_roundw
        case rel =>
          refine ⟨k + 1, a9, cap9, by omega, by go_num, by rw [hlen], ?_, hr9⟩
          rw [hlen]
          exact hs9.mono (fun j _ e => by (try simp only [World.size_drew] at e); rcases e with (e | e) | e <;> omega)
        case measure => simp [intOf]; omega
    · obtain rfl : k = n.keys.length := by omega
      have hbd : n.entTo n.keys.length = n.body := rfl
      have hbl := HPF.out n.keys.length (Nat.le_refl _)
      rw [hbd] at hsl hbl ⊢
      have HBL := Lib.hid hbl
      have hMr : M ≤ wr.heap.size := by have h1 := HMM.out; have h2 := hcr.size; omega
      have hkl : (n.keys.length : Int) ≤ 65535 := by have := HM.out; omega
      have hbb : (n.body.length : Int) ≤ 4294967295 := by have := HM.out; omega
      have hbb0 : (0 : Int) ≤ (n.body.length : Int) := by omega
      have hbb1 : n.body.length ≤ 4096 := by have := HM.out; omega
      clear hbl hbd
      have hsl' := hsl.mono (own2 := fun j => M ≤ j ∧ j < wr.heap.size) (fun j hj e => ⟨e, hj⟩)
      obtain ⟨M2, hM2⟩ : ∃ M2, M2 = wr.heap.size := ⟨_, rfl⟩
      have HM2 := Lib.hid hM2
      have FB : Hid (∀ w', Chg (fun j => M2 ≤ j) wr w' → SlAt w' (fun j => M ≤ j ∧ j < wr.heap.size) 5 1 (.slice a n.body.length cap) n.body.length (bcells n.body)) := fun w' kk => hsl'.chg kk (fun j e => by have h1 := HM2.out; omega)
      have FX : Hid (∀ w', Chg (fun j => M2 ≤ j) wr w' → Chg (fun j => M ≤ j) w4 w') := fun w' kk => hcr.trans (kk.mono (fun j _ e => by have h1 := HM2.out; omega))
      clear hsl' hM2
      have hcs := fun (w : World) (C : Array Value) (n c : Nat) => Lib.run_convert_bytes_const (P := Try.prog) w 36 5 C n c Try.underlying36 Try.underlying5
      have hm20 : M2 ≤ wr.heap.size := by have := HM2.out; omega
      go_wp2_with (at_builtin; refine wpList_append_full rfl (.tmp 95) (.tmp 97) 36 rfl 5 i5 (.int .u8 0) 1 1 Try.underlying36 hi5 hz0 hz1 hz2 rfl wr.heap.size 0 4 (bcells (bts magic)) rfl rfl ?_ (fun j => j = wr.heap.size + 1) _ 2 (bcells [2, 0]) rfl ?_ (by decide) ?_ ?_ ?_; exact marked_cells wr _; exact rd_newG (cs := bcells [2, 0]) (by simp) rfl (by unfold maxLen; omega); (unfold maxLen; omega); omega; intro v5 w5 hs5 hc5; obtain ⟨a5, cap5, rfl⟩ := hs5.shape; (have hq5 : Chg (fun j => M2 ≤ j) wr w5 := (((Chg.refl _ _).alloc _).alloc _).trans (Chg.of_below hc5)); obtain ⟨y0, y1, y2, y3, ly⟩ := FK.out w5 (FX.out w5 hq5))
      have hm25 : M2 ≤ w5.heap.size := by have := hq5.size; omega
      have hs5' := hs5.mono (own2 := fun j => M2 ≤ j) (fun j _ e => by simp only [World.size_alloc] at e; omega)
      clear hs5 hc5 y0 y1 y2 y3 ly
      refine (high2_any w5 n.keys.length (by omega) hkl).mono ?_
      rintro e w6 ⟨⟨g6, rfl, hg6, hx6⟩, k6⟩
      have hs6 := hs5'.below k6
      have hq6 : Chg (fun j => M2 ≤ j) wr w6 := hq5.trans (Chg.of_below k6)
      have hm26 : M2 ≤ w6.heap.size := by have := hq6.size; omega
      clear hs5' k6
      go_wp2_with (at_builtin; refine wpList_append_sl rfl (.tmp 99) (.tmp 104) 36 rfl 5 i5 (.int .u8 0) 1 1 Try.underlying36 hi5 hz0 hz1 hz2 rfl (fun j => M2 ≤ j) _ (4 + 2) (bcells (bts magic) ++ bcells [2, 0]) rfl hs6 _ _ 2 (bcells (be2 n.keys.length)) rfl hx6 (bcells_one _) ?_ ?_ ?_; (unfold maxLen; omega); omega; intro v7 w7 hs7 hc7; obtain ⟨a7, cap7, rfl⟩ := hs7.shape)
      have hq7 := hq6.trans hc7
      have hm27 : M2 ≤ w7.heap.size := by have := hq7.size; omega
      have hs7' := hs7.mono (own2 := fun j => M2 ≤ j) (fun j _ e => by rcases e with e | e; exact e; omega)
      clear hs7 hs6 hc7 hx6
      refine (high4_any w7 n.body.length (by omega) hbb).mono ?_
      rintro e w8 ⟨⟨g8, rfl, hg8, hx8⟩, k8⟩
      have hs8 := hs7'.below k8
      have hq8 : Chg (fun j => M2 ≤ j) wr w8 := hq7.trans (Chg.of_below k8)
      have hm28 : M2 ≤ w8.heap.size := by have := hq8.size; omega
      clear hs7' k8
      have hsh0 : (strOfNums n.head).size = 12 := by rw [strOfNums_size, ND.head_len]
      have hssz : (strOfNums n.body).size = n.body.length := strOfNums_size _
      go_wp2_with (at_builtin; refine wpList_append_sl rfl (.tmp 105) (.tmp 109) 36 rfl 5 i5 (.int .u8 0) 1 1 Try.underlying36 hi5 hz0 hz1 hz2 rfl (fun j => M2 ≤ j) _ (4 + 2 + 2) (bcells (bts magic) ++ bcells [2, 0] ++ bcells (be2 n.keys.length)) rfl hs8 _ _ 4 (bcells (be4 n.body.length)) rfl hx8 (bcells_one _) ?_ ?_ ?_; (unfold maxLen; omega); omega; intro v9 w9 hs9 hc9; obtain ⟨a9, cap9, rfl⟩ := hs9.shape; (have hq9 := hq8.trans hc9); (have hs9' : SlAt w9 (fun j => M2 ≤ j) 5 1 (.slice a9 n.head.length cap9) n.head.length (bcells n.head) := headOf_false HLE.out (hs9.mono (own2 := fun j => M2 ≤ j) (fun j _ e => by rcases e with e | e; exact e; omega))); (have hcv1 : (convert 36 9 (.slice a9 (4 + 2 + 2 + 4) cap9)).run Try.prog w9 = .ok (.string (strOfNums n.head)) w9 := conv_str w9 _ _ n.head hs9'.rd); (have hcv2 := conv_str w9 _ _ n.body (FB.out w9 hq9).rd))
      have hcz : (strOfNums n.head ++ strOfNums n.body).size ≤ 1073741824 := by rw [ByteArray.size_append, hsh0, hssz]; omega
      refine (refcrc_any _ _ hcz).mono ?_
      rintro e wa ⟨rfl, rfl⟩
      have hcr' := hcr
      have hcr := crcOf_in (strOfNums n.head ++ strOfNums n.body)
      have HCR : Hid (crcOf (strOfNums n.head ++ strOfNums n.body) = n.crc) := rfl
      rw [HCR.out] at hcr ⊢
      obtain ⟨hcr0, hcr1⟩ := hcr
      clear hcz hcv1 hcv2
      have hsz4 : size ≤ 4096 := HM.out.1
      have hmk : ∀ u : World, (Instr.makeSlice 36 (.int .i64 size) (.int .i64 size)).run Try.prog u = .ok (.slice (some ⟨u.heap.size, 0, none⟩) size size) (u.alloc (.cells (bcells (List.replicate size 0)).toArray 5)) := fun u => by
        have h := run_make (P := Try.prog) u 36 5 i5 (.int .u8 0) Try.underlying36 hi5 hz0 .i64 .i64 (size : Int) (size : Int) (by omega) (Int.le_refl _) (by rw [hz2]; omega) (by omega)
        rw [hz1, Nat.mul_one] at h
        rw [← madeCells_zeros]
        exact h
      have hrs : (0 : Int) ≤ (size : Int) := by omega
      go_wp2_with fail
      have hs9c := hs9'.mono (own2 := fun j => M2 ≤ j ∧ j < wa.heap.size) (fun j hj e => ⟨e, hj⟩)
      have kz : Bl wa (wa.alloc (.cells (bcells (List.replicate size 0)).toArray 5)) := (Bl.refl _).alloc _
      have bD0 : (wa.alloc (.cells (bcells (List.replicate size 0)).toArray 5)).heap[wa.heap.size]? = some (.cells (bcells (List.replicate size 0)).toArray 5 (0, 0)) := block_new _ _
      have lD0 := lt_of_block bD0
      have hm2a : M2 ≤ wa.heap.size := by have := hq9.size; omega
      refine (high4_any _ n.crc hcr0 hcr1).mono ?_
      rintro e wb ⟨⟨gb, rfl, hgb, hxb⟩, kb⟩
      have bDb := below_keeps kb bD0 lD0
      have lDb := lt_of_block bDb
      have hsb := (hs9c.below kz).below kb
      have hqb : Chg (fun j => M2 ≤ j) wr wb := (hq9.trans (Chg.of_below kz)).trans (Chg.of_below kb)
      have hmb : M2 ≤ wb.heap.size := by omega
      clear hs9 hs9' hs9c hcr0 hcr1 hmk hsh0 hssz
      go_wp2_with (first
        | (at_builtin; refine wpList_append_sl rfl (.tmp 124) (.tmp 125) 36 rfl 5 i5 (.int .u8 0) 1 1 Try.underlying36 hi5 hz0 hz1 hz2 rfl _ _ (12 + 4) (bcells n.head ++ bcells (be4 n.crc)) rfl hsd _ _ n.body.length (bcells n.body) rfl (FB.out wd hqd).rd (bcells_one _) ?_ ?_ ?_; (unfold maxLen; omega); omega; intro ve we hse hce; obtain ⟨ae, cape, rfl⟩ := hse.shape; (have bDe := hce.keeps bDd (fun e => by rcases e with e | e; exact absurd e.2 (by omega); omega)); (have hqe : Chg (fun j => M2 ≤ j) wr we := hqd.trans (hce.mono (fun j _ e => by rcases e with e | e; exact e.1; omega))))
        | (at_builtin; refine wpList_append_sl rfl (.tmp 120) (.tmp 123) 36 rfl 5 i5 (.int .u8 0) 1 1 Try.underlying36 hi5 hz0 hz1 hz2 rfl _ _ 12 (bcells n.head) rfl hsb _ _ 4 (bcells (be4 n.crc)) rfl hxb (bcells_one _) ?_ ?_ ?_; (unfold maxLen; omega); omega; intro vd wd hsd hcd; obtain ⟨ad, capd, rfl⟩ := hsd.shape; (have bDd := hcd.keeps bDb (fun e => absurd e.2 (by omega))); (have hqd : Chg (fun j => M2 ≤ j) wr wd := hqb.trans (hcd.mono (fun j _ e => e.1))))
        | (refine wpList_copy_sl rfl (.tmp 119) (.tmp 126) 36 36 rfl 5 i5 Try.underlying36 hi5 hz1 _ _ (12 + 4 + n.body.length) (bcells n.head ++ bcells (be4 n.crc) ++ bcells n.body) rfl hse.rd (by intro u hu; rw [← bcells_append, ← bcells_append] at hu; exact bcells_one _ u hu) (some ⟨wa.heap.size, 0, none⟩) wa.heap.size 0 size size (bcells (List.replicate size 0)).toArray 5 rfl (fun _ => ⟨rfl, bDe, by have h1 := HBL.out; simp; exact Nat.min_le_right _ _⟩) ?_; intro wf hf1 hf2 hcf))
      go_ret2
      have hmin : Nat.min (12 + 4 + n.body.length) size = 12 + 4 + n.body.length := Nat.min_eq_left (by have := HBL.out; omega)
      rw [hmin] at hf1
      have hf3 := hf1 (by omega)
      have hcells : (splice (bcells (List.replicate size 0)).toArray.toList 0 ((bcells n.head ++ bcells (be4 n.crc) ++ bcells n.body).take (12 + 4 + n.body.length))) = bcells (n.out size) := by
        have hl3 : (bcells n.head ++ bcells (be4 n.crc) ++ bcells n.body).length = 12 + 4 + n.body.length := by rw [List.length_append, List.length_append, bcells_len, bcells_len, bcells_len, ND.head_len, be4_len]
        rw [← hl3, List.take_length, splice, hl3, ND.out, ND.enc_bts HL.out.1, bcells_append]
        have he : n.enc = n.head ++ be4 n.crc ++ n.body := by rw [ND.enc, bts_str (ND.body_ok HL.out.1)]
        rw [he, bcells_append, bcells_append]
        have hl4 : (n.head ++ be4 n.crc ++ n.body).length = 12 + 4 + n.body.length := by rw [List.length_append, List.length_append, ND.head_len, be4_len]
        rw [hl4]
        simp [bcells, List.map_replicate]
      rw [hcells] at hf3
      have hol : (n.out size).length = size := ND.out_len (by rw [ND.enc_len]; have := HBL.out; omega)
      have hB0 : w.heap.size ≤ wa.heap.size := by have h1 := HM2.out; omega
      refine ⟨⟨_, rfl, by rw [bcells_len, hol, Nat.mul_one], _, _, rfl, Nat.le_refl _, by unfold maxLen; omega, fun _ => ⟨wa.heap.size, 0, rfl, hB0, lt_of_block hf3, fun j u hj => ?_⟩⟩, ?_⟩
      · rw [cell_of_block hf3]
        simpa using hj
      · refine Below.trans kW4 ?_
        exact (((FX.out we hqe).trans (hcf.mono (own2 := fun j => M ≤ j) (fun j _ e => by have h1 := HM2.out; omega))).below (by omega) (fun i hi e => by omega))
end Go.Proofs.Ytjdkalimaldofaa
