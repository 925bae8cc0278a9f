/-
  Encode: the program's.
-/
import Derived.Test.YtjdkalimaldofaaNEnt
import Derived.Lib.BufferWrite
namespace Go.Proofs.Ytjdkalimaldofaa
open Go.RowKit
set_option linter.unusedSimpArgs false
set_option linter.unusedVariables false
def sizeOk (n : Int) : Bool := decide (n = 512) || decide (n = 1024) || decide (n = 2048) || decide (n = 4096)
theorem and_small (n : Nat) (h1 : 512 ≤ n) (h2 : n ≤ 4096) : bits .and .i64 (n : Int) ((n : Int) - 1) = ((n &&& (n - 1) : Nat) : Int) := by
  have e : ((n : Int) - 1) = ((n - 1 : Nat) : Int) := by omega
  rw [e]
  exact (bits_nat .i64 13 (by decide) (fun m h0 h1 => by rw [IntKind.wrap_i64]; omega) n (n - 1) (by omega) (by omega)).1
theorem land_pow : (List.range 3585).all (fun k => ((k + 512) &&& (k + 511) == 0) == (k + 512 == 512 || k + 512 == 1024 || k + 512 == 2048 || k + 512 == 4096)) = true := by decide +kernel
theorem land_is (n : Nat) (h1 : 512 ≤ n) (h2 : n ≤ 4096) : ((n &&& (n - 1) : Nat) : Int) = 0 ↔ sizeOk n = true := by
  have h := List.all_eq_true.1 land_pow (n - 512) (by rw [List.mem_range]; omega)
  rw [show n - 512 + 512 = n by omega, show n - 512 + 511 = n - 1 by omega] at h
  have h := eq_of_beq h
  have e : sizeOk n = (n == 512 || n == 1024 || n == 2048 || n == 4096) := by
    simp only [sizeOk, ← Nat.beq_eq_true_eq]
    congr 1
    · congr 1
      · congr 1 <;> (rw [Bool.eq_iff_iff]; simp; omega)
      · rw [Bool.eq_iff_iff]; simp; omega
    · rw [Bool.eq_iff_iff]; simp; omega
  rw [e, ← h]
  simp
set_option maxHeartbeats 1000000 in
theorem sizeright_any (w : World) (n : Int) (h0 : -9223372036854775808 ≤ n) (h1 : n ≤ 9223372036854775807) :
    Calls Try.prog 39 #[.int .i64 n] w fun e w' => e = .returned (.bool (sizeOk n)) ∧ w' = w := by
  by_cases a : 512 ≤ n
  · by_cases b : n ≤ 4096
    · obtain ⟨m, rfl⟩ : ∃ m : Nat, n = m := ⟨n.toNat, by omega⟩
      have hb := and_small m (by omega) (by omega)
      have hi := Lib.hid (land_is m (by omega) (by omega))
      have hw : IntKind.i64.wrap ((m : Int) - 1) = (m : Int) - 1 := IntWalk.i64_in _ (by omega)
      cases hs : sizeOk (m : Int) with
      | true =>
        have hz : ((m &&& (m - 1) : Nat) : Int) = 0 := hi.out.2 hs
        rw [hz] at hb
        clear hs hz
        go_enter Try.func39, Try.ntmps39
        go_wp2_with fail
        go_ret
        exact ⟨rfl, rfl⟩
      | false =>
        have hz : ¬ ((m &&& (m - 1) : Nat) : Int) = 0 := fun e => by have := hi.out.1 e; rw [hs] at this; cases this
        generalize hq : ((m &&& (m - 1) : Nat) : Int) = q at *
        have hz2 : (q == 0) = false := by simpa using hz
        clear hs hq
        go_enter Try.func39, Try.ntmps39
        go_wp2_with fail
        go_ret
        exact ⟨rfl, rfl⟩
    · have e : sizeOk n = false := by simp [sizeOk]; omega
      rw [e]; clear e
      go_enter Try.func39, Try.ntmps39
      go_wp2_with fail
      go_ret
      exact ⟨rfl, rfl⟩
  · have e : sizeOk n = false := by simp [sizeOk]; omega
    rw [e]; clear e
    go_enter Try.func39, Try.ntmps39
    go_wp2_with fail
    go_ret
    exact ⟨rfl, rfl⟩
theorem wpList_copy_str {P : Program} {ops : Array Oper} {rest : List Oper} {o : Oper} {a : Act} {Q : Exit → Act → World → Prop} {w : World} (hgd : o.guard = none) (d s : Operand) (dT sT : TypeId)
    (ho : o.op = .call { callee := .builtin .copy, args := #[d, s], argTypes := #[dT, sT] })
    (e : TypeId) (hu : P.underlying dT = some (.slice e)) (hi : (P.info? e).map (·.size) = some 1) (str : ByteArray) (hsv : a.eval s = .string str)
    (g off dLen dCap : Nat) (cur : Array Value) (t : TypeId) (hdv : a.eval d = .slice (some ⟨g, off, none⟩) dLen dCap) (hg : w.heap[g]? = some (.cells cur t (0, 0))) (hle : str.size ≤ dLen) (hfit : off + str.size ≤ cur.size)
    (h : wpList P ops Q rest (a.put o.dst (goInt str.size)) (w.setRow g (cur.toList.take off ++ Lib.byteCells str.data.toList ++ cur.toList.drop (off + str.size)).toArray)) :
    wpList P ops Q (o :: rest) a w := by
  refine wpList_plain hgd fun K hK => ?_
  have hrun := Lib.run_copy_row_string (P := P) w dT sT o.type e g off dLen dCap str cur t hu hi hg hle hfit
  unfold Oper.wp
  simp [execOp, ho, resolve, invoke, builtin, hsv, hdv, hrun, Result.andThen, -List.append_assoc]
  exact hK _ _ h
theorem byteCells_bts (s : ByteArray) : Lib.byteCells s.data.toList = bcells (bts s) := by
  simp [Lib.byteCells, bcells, bts, Function.comp_def]
def magic : ByteArray := ⟨#[68, 78, 79, 68]⟩
def ND.head (n : ND) : List Int := bts magic ++ be1 (if n.leaf then 1 else 2) ++ be1 0 ++ be2 n.keys.length ++ be4 n.body.length
def ND.crc (n : ND) : Int := crcOf (strOfNums n.head ++ strOfNums n.body)
def ND.enc (n : ND) : List Int := n.head ++ be4 n.crc ++ bts (strOfNums n.body)
def ND.out (n : ND) (size : Nat) : List Int := bts (strOfNums n.enc) ++ List.replicate (size - n.enc.length) 0
theorem ND.head_len (n : ND) : n.head.length = 12 := rfl
theorem ND.enc_len (n : ND) : n.enc.length = 16 + n.body.length := by
  unfold ND.enc
  rw [List.length_append, List.length_append, ND.head_len, be4_len, bts_len, strOfNums_size]
theorem ND.out_len {n : ND} {size : Nat} (h : n.enc.length ≤ size) : (n.out size).length = size := by
  unfold ND.out
  rw [List.length_append, List.length_replicate, bts_len, strOfNums_size]; omega
theorem ND.psumTo_ge (n : ND) (k : Nat) : (k : Int) ≤ n.psumTo k := by
  induction k with
  | zero => exact Int.le_refl _
  | succ k ih =>
    have h1 := sz_pos n.keys k
    have h2 := sz_pos n.values k
    have : 1 ≤ n.pentry k := by unfold ND.pentry; split <;> (try split) <;> omega
    show ((k + 1 : Nat) : Int) ≤ n.psumTo k + n.pentry k
    omega
set_option maxRecDepth 100000 in
set_option maxHeartbeats 4000000 in
theorem encode_ok_true (w : World) (own : Nat → Prop) (v : Value) (n : ND) (size : Nat) (hv : NodeAt w own v n) (sm : n.Small) (ln : n.Lens) (hc : n.check = 0) (hf : n.leaf = true) (hs : sizeOk size = true) (hp : n.psize ≤ size) :
    Calls Try.prog 16 #[.int .i64 size, v] w fun e w' => (∃ x, e = .returned (.tuple #[x, .int .i64 0]) ∧ RdAt w' (fun k => w.heap.size ≤ k) 1 x size (bcells (n.out size))) ∧ Bl w w' := by
  have hv2 : NodeAt w (fun k => k < w.heap.size) v n := by
    obtain ⟨a, b, c, d, e, f, rfl, h⟩ := hv
    exact ⟨a, b, c, d, e, f, rfl, h.mono (fun k hk _ => hk)⟩
  clear hv
  have hv' := hv2
  obtain ⟨ka, kc, va, vc, ia, ic, rfl, h⟩ := hv2
  obtain ⟨i5, hi5, hz0, hz1, hz2⟩ := info_parts info5
  obtain ⟨hl, hsh, -⟩ := ND.check_zero hc
  have hsz : size = 512 ∨ size = 1024 ∨ size = 2048 ∨ size = 4096 := by simp only [sizeOk, Bool.or_eq_true, decide_eq_true_eq] at hs; omega
  have hsz1 : size ≤ 4096 := by omega
  have hsz2 : 512 ≤ size := by omega
  clear hsz
  have hfit := ND.entTo_fit (ND.shape_form hsh) (Nat.le_refl n.keys.length)
  have hbl : (n.body.length : Int) + 16 ≤ size := Int.le_trans hfit hp
  clear hfit
  have hkl : (n.keys.length : Int) + 16 ≤ size := by
    have := n.psumTo_ge n.keys.length
    have e : n.psumTo n.keys.length + 16 ≤ n.psize := by unfold ND.psize; split <;> omega
    omega
  have hp4 : n.psize ≤ 4096 := by omega
  have hmk : ∀ u : World, (Instr.makeSlice 36 (.int .i64 size) (.int .i64 size)).run Try.prog u = .ok (.slice (some ⟨u.heap.size, 0, none⟩) size size) (u.alloc (.cells (bcells (List.replicate size 0)).toArray 5)) := fun u => by
    have h := run_make (P := Try.prog) u 36 5 i5 (.int .u8 0) Try.underlying36 hi5 hz0 .i64 .i64 (size : Int) (size : Int) (by omega) (Int.le_refl _) (by rw [hz2]; omega) (by omega)
    rw [hz1, Nat.mul_one] at h
    rw [← madeCells_zeros]
    exact h
  have HM := Lib.hid (And.intro hsz1 (And.intro hsz2 (And.intro hbl hkl)))
  have HLF := Lib.hid hf
  have HSH := Lib.hid hsh
  have HP := Lib.hid hp
  have hng : ¬ (size : Int) < n.psize := by omega
  have HHD : Hid (n.head = bts magic ++ be1 1 ++ be1 0 ++ be2 n.keys.length ++ be4 n.body.length) := by show _ = _; rw [ND.head, hf]; rfl
  unfold nodeV
  unfold nodeV at hv'
  rw [hf]
  rw [hf] at hv'
  have kB : Bl w (w.alloc (.cells #[.bool true, .slice ka n.keys.length kc, .slice va n.values.length vc, .slice ia n.kids.length ic] 25)) := (Bl.refl w).alloc _
  have b1 : (w.alloc (.cells #[.bool true, .slice ka n.keys.length kc, .slice va n.values.length vc, .slice ia n.kids.length ic] 25)).heap[w.heap.size]? = some (.cells #[.bool true, .slice ka n.keys.length kc, .slice va n.values.length vc, .slice ia n.kids.length ic] 25 (0, 0)) := block_new _ _
  clear hsh hbl hkl hsz1 hsz2 hp
  have hne : (n.check != 0) = false := by rw [hc]; rfl
  go_enter Try.func16, Try.ntmps16
  go_wp2_with fail
  refine (check_any _ _ _ n (hv'.bl kB) sm ln).mono ?_
  rw [hc]
  rintro e w2 ⟨rfl, k2⟩
  clear hne hc hf
  have b2 := below_keeps k2 b1 (lt_of_block b1)
  have lB := lt_of_block b2
  obtain ⟨x0, x1, x2, x3, -, -, -, -⟩ := cells4 b2
  go_wp2_with fail
  refine (sizeright_any _ (size : Int) (by omega) (by have := HM.out; omega)).mono ?_
  rw [hs]
  rintro e w3 ⟨rfl, rfl⟩
  clear hs
  go_wp2_with fail
  refine (psize_any _ _ _ n (hv'.bl (kB.trans k2)) sm hl).mono ?_
  rintro e w4 ⟨rfl, k4⟩
  have b4 := below_keeps k4 b2 lB
  have lB4 := lt_of_block b4
  obtain ⟨y0, y1, y2, y3, -, -, -, -⟩ := cells4 b4
  go_wp2_with fail
  refine (entries_true _ _ _ n (hv'.bl ((kB.trans k2).trans k4)) sm hl HSH.out HLF.out hp4).mono ?_
  rintro e w5 ⟨rfl, k5⟩
  have b5 := below_keeps k5 b4 lB4
  have lB5 := lt_of_block b5
  have kW5 := ((kB.trans k2).trans k4).trans k5
  clear x0 x1 x2 x3 y0 y1 y2 y3 b1 b2 b4 k2 k4 k5 kB hl hng
  go_wp2_with fail
  refine (newwriter_any _ (size : Int) (by omega) (by have := HM.out; omega)).mono ?_
  rintro e w6 ⟨rfl, hw6, k6⟩
  have b6 := below_keeps k6 b5 lB5
  have kW6 := kW5.trans k6
  have hzM := kW5.size
  have hM0 : w.heap.size < w5.heap.size := lB5
  clear b5 lB5 kW5 k6 lB lB4
  generalize w5.heap.size = M at *
  have FK : Hid (∀ w', Chg (fun j => M ≤ j) w6 w' → w'.cell? ⟨w.heap.size, 1, none⟩ = some (.slice ka n.keys.length kc)) := fun w' kk => (cells4 (kk.keeps b6 (by omega))).2.1
  have h30 : (size : Int) ≤ 1073741824 := by have := HM.out; omega
  have H30 := Lib.hid h30
  clear h30
  go_wp2_with fail
  refine (raw_any _ M M size _ hw6 H30.out magic (by have := HM.out; show (0 : Int) + 4 ≤ size; omega)).mono ?_
  rintro e w7 ⟨rfl, hw7, hc7⟩
  go_wp2_with fail
  refine (wU8_any _ M M size _ hw7 H30.out 1 (by omega) (by omega) (by have := HM.out; show (4 : Int) + 1 ≤ size; omega)).mono ?_
  rintro e w8 ⟨rfl, hw8, hc8⟩
  have hr8 := hc7.trans hc8
  go_wp2_with fail
  refine (wU8_any _ M M size _ hw8 H30.out 0 (by omega) (by omega) (by have := HM.out; show (5 : Int) + 1 ≤ size; omega)).mono ?_
  rintro e w9 ⟨rfl, hw9, hc9⟩
  have hr9 := hr8.trans hc9
  have z1 := FK.out w9 hr9
  have hk1 : (n.keys.length : Int) ≤ 65535 := by have := HM.out; omega
  have hk0 : (0 : Int) ≤ (n.keys.length : Int) := by omega
  go_wp2_with fail
  refine (wU16_any _ M M size _ hw9 H30.out n.keys.length (by omega) (by omega) (by have := HM.out; show (6 : Int) + 2 ≤ size; omega)).mono ?_
  rintro e wa ⟨rfl, hwa, hca⟩
  have hra := hr9.trans hca
  clear z1 hk1 hk0
  have hssz : (strOfNums n.body).size = n.body.length := strOfNums_size _
  have hb1 : (n.body.length : Int) ≤ 4294967295 := by have := HM.out; omega
  have hb0 : (0 : Int) ≤ (n.body.length : Int) := by omega
  go_wp2_with fail
  refine (wU32_any _ M M size _ hwa H30.out n.body.length (by omega) (by omega) (by have := HM.out; show (8 : Int) + 4 ≤ size; omega)).mono ?_
  rintro e wb ⟨rfl, hwb, hcb⟩
  have hrb := hra.trans hcb
  rw [List.nil_append, ← HHD.out] at hwb
  go_wp2_with fail
  refine (done_any _ M M size _ hwb).mono ?_
  rintro e wc ⟨rfl, rfl⟩
  have hsh0 : (strOfNums n.head).size = 12 := by rw [strOfNums_size, ND.head_len]
  go_wp2_with fail
  have hcz : (strOfNums n.head ++ strOfNums n.body).size ≤ 1073741824 := by rw [ByteArray.size_append, hsh0, hssz]; have := HM.out; omega
  refine (crc_any _ _ hcz).mono ?_
  rintro e wd ⟨rfl, rfl⟩
  have hcr := crcOf_in (strOfNums n.head ++ strOfNums n.body)
  have HCR : Hid (crcOf (strOfNums n.head ++ strOfNums n.body) = n.crc) := rfl
  rw [HCR.out] at hcr ⊢
  clear hcz
  obtain ⟨hcr0, hcr1⟩ := hcr
  go_wp2_with fail
  refine (wU32_any _ M M size _ hwb H30.out _ hcr0 hcr1 (by have := HM.out; rw [ND.head_len]; omega)).mono ?_
  rintro e we ⟨rfl, hwe, hce⟩
  have hre := hrb.trans hce
  go_wp2_with fail
  refine (raw_any _ M M size _ hwe H30.out _ (by rw [List.length_append, ND.head_len, be4_len, hssz]; have := HM.out; omega)).mono ?_
  rintro e wf ⟨rfl, hwf, hcf⟩
  have hrf := hre.trans hcf
  have hen : n.head ++ be4 n.crc ++ bts (strOfNums n.body) = n.enc := rfl
  rw [hen] at hwf
  clear hen
  go_wp2_with fail
  refine (done_any _ M M size _ hwf).mono ?_
  rintro e wg ⟨rfl, rfl⟩
  have hel : (strOfNums n.enc).size ≤ size := by rw [strOfNums_size, ND.enc_len]; have := HM.out; omega
  have HEL := Lib.hid hel
  clear hel hssz hsh0 hcr0 hcr1
  have kz := hrf.size
  have hg0 := block_new wg (.cells (bcells (List.replicate size 0)).toArray 5)
  have hcells : (bcells (List.replicate size 0)).toArray.toList.take 0 ++ Lib.byteCells (strOfNums n.enc).data.toList ++ (bcells (List.replicate size 0)).toArray.toList.drop (0 + (strOfNums n.enc).size) = bcells (n.out size) := by
    rw [byteCells_bts, strOfNums_size, ND.out, bcells_append]
    simp [bcells, List.map_replicate]
  have hcp : (Builtin.copy_ #[36, 9] 3 #[.slice (some ⟨wg.heap.size, 0, none⟩) size size, .string (strOfNums n.enc)]).run Try.prog (wg.alloc (.cells (bcells (List.replicate size 0)).toArray 5)) = .ok (goInt (strOfNums n.enc).size) ((wg.alloc (.cells (bcells (List.replicate size 0)).toArray 5)).setRow wg.heap.size (bcells (n.out size)).toArray) := by
    rw [Lib.run_copy_row_string (P := Try.prog) (wg.alloc (.cells (bcells (List.replicate size 0)).toArray 5)) 36 9 3 5 wg.heap.size 0 size size (strOfNums n.enc) (bcells (List.replicate size 0)).toArray 5 Try.underlying36 (by rw [hi5]; simp [hz1]) hg0 HEL.out (by simp; exact HEL.out), hcells]
  clear hcells
  go_wp2_with fail
  go_ret2
  have hset := setRow_heap (wg.alloc (.cells (bcells (List.replicate size 0)).toArray 5)) wg.heap.size (bcells (List.replicate size 0)).toArray (bcells (n.out size)).toArray 5 (0, 0) hg0
  have hol : (n.out size).length = size := ND.out_len (by have := HEL.out; rw [strOfNums_size] at this; exact this)
  have hB0 : w.heap.size ≤ wg.heap.size := by have := kW6.size; omega
  refine ⟨⟨_, rfl, by rw [bcells_len, hol, Nat.mul_one], _, _, rfl, Nat.le_refl _, by unfold maxLen; have := HM.out; omega, fun _ => ⟨wg.heap.size, 0, rfl, hB0, lt_of_block hset, fun j u hj => ?_⟩⟩, ?_⟩
  · rw [cell_of_block hset]
    simpa using hj
  · refine Below.trans kW6 (Below.trans (hrf.below kW6.size (fun i hi e => by omega)) ?_)
    exact (chg_setRow (own := fun j => w.heap.size ≤ j) ((Chg.refl _ _).alloc _) _ _ hB0).below hB0 (fun i hi e => by omega)
set_option maxRecDepth 100000 in
set_option maxHeartbeats 4000000 in
theorem encode_ok_false (w : World) (own : Nat → Prop) (v : Value) (n : ND) (size : Nat) (hv : NodeAt w own v n) (sm : n.Small) (ln : n.Lens) (hc : n.check = 0) (hf : n.leaf = false) (hs : sizeOk size = true) (hp : n.psize ≤ size) :
    Calls Try.prog 16 #[.int .i64 size, v] w fun e w' => (∃ x, e = .returned (.tuple #[x, .int .i64 0]) ∧ RdAt w' (fun k => w.heap.size ≤ k) 1 x size (bcells (n.out size))) ∧ Bl w w' := by
  have hv2 : NodeAt w (fun k => k < w.heap.size) v n := by
    obtain ⟨a, b, c, d, e, f, rfl, h⟩ := hv
    exact ⟨a, b, c, d, e, f, rfl, h.mono (fun k hk _ => hk)⟩
  clear hv
  have hv' := hv2
  obtain ⟨ka, kc, va, vc, ia, ic, rfl, h⟩ := hv2
  obtain ⟨i5, hi5, hz0, hz1, hz2⟩ := info_parts info5
  obtain ⟨hl, hsh, -⟩ := ND.check_zero hc
  have hsz : size = 512 ∨ size = 1024 ∨ size = 2048 ∨ size = 4096 := by simp only [sizeOk, Bool.or_eq_true, decide_eq_true_eq] at hs; omega
  have hsz1 : size ≤ 4096 := by omega
  have hsz2 : 512 ≤ size := by omega
  clear hsz
  have hfit := ND.entTo_fit (ND.shape_form hsh) (Nat.le_refl n.keys.length)
  have hbl : (n.body.length : Int) + 16 ≤ size := Int.le_trans hfit hp
  clear hfit
  have hkl : (n.keys.length : Int) + 16 ≤ size := by
    have := n.psumTo_ge n.keys.length
    have e : n.psumTo n.keys.length + 16 ≤ n.psize := by unfold ND.psize; split <;> omega
    omega
  have hp4 : n.psize ≤ 4096 := by omega
  have hmk : ∀ u : World, (Instr.makeSlice 36 (.int .i64 size) (.int .i64 size)).run Try.prog u = .ok (.slice (some ⟨u.heap.size, 0, none⟩) size size) (u.alloc (.cells (bcells (List.replicate size 0)).toArray 5)) := fun u => by
    have h := run_make (P := Try.prog) u 36 5 i5 (.int .u8 0) Try.underlying36 hi5 hz0 .i64 .i64 (size : Int) (size : Int) (by omega) (Int.le_refl _) (by rw [hz2]; omega) (by omega)
    rw [hz1, Nat.mul_one] at h
    rw [← madeCells_zeros]
    exact h
  have HM := Lib.hid (And.intro hsz1 (And.intro hsz2 (And.intro hbl hkl)))
  have HLF := Lib.hid hf
  have HSH := Lib.hid hsh
  have HP := Lib.hid hp
  have hng : ¬ (size : Int) < n.psize := by omega
  have HHD : Hid (n.head = bts magic ++ be1 2 ++ be1 0 ++ be2 n.keys.length ++ be4 n.body.length) := by show _ = _; rw [ND.head, hf]; rfl
  unfold nodeV
  unfold nodeV at hv'
  rw [hf]
  rw [hf] at hv'
  have kB : Bl w (w.alloc (.cells #[.bool false, .slice ka n.keys.length kc, .slice va n.values.length vc, .slice ia n.kids.length ic] 25)) := (Bl.refl w).alloc _
  have b1 : (w.alloc (.cells #[.bool false, .slice ka n.keys.length kc, .slice va n.values.length vc, .slice ia n.kids.length ic] 25)).heap[w.heap.size]? = some (.cells #[.bool false, .slice ka n.keys.length kc, .slice va n.values.length vc, .slice ia n.kids.length ic] 25 (0, 0)) := block_new _ _
  clear hsh hbl hkl hsz1 hsz2 hp
  have hne : (n.check != 0) = false := by rw [hc]; rfl
  go_enter Try.func16, Try.ntmps16
  go_wp2_with fail
  refine (check_any _ _ _ n (hv'.bl kB) sm ln).mono ?_
  rw [hc]
  rintro e w2 ⟨rfl, k2⟩
  clear hne hc hf
  have b2 := below_keeps k2 b1 (lt_of_block b1)
  have lB := lt_of_block b2
  obtain ⟨x0, x1, x2, x3, -, -, -, -⟩ := cells4 b2
  go_wp2_with fail
  refine (sizeright_any _ (size : Int) (by omega) (by have := HM.out; omega)).mono ?_
  rw [hs]
  rintro e w3 ⟨rfl, rfl⟩
  clear hs
  go_wp2_with fail
  refine (psize_any _ _ _ n (hv'.bl (kB.trans k2)) sm hl).mono ?_
  rintro e w4 ⟨rfl, k4⟩
  have b4 := below_keeps k4 b2 lB
  have lB4 := lt_of_block b4
  obtain ⟨y0, y1, y2, y3, -, -, -, -⟩ := cells4 b4
  go_wp2_with fail
  refine (entries_false _ _ _ n (hv'.bl ((kB.trans k2).trans k4)) sm hl HSH.out HLF.out hp4).mono ?_
  rintro e w5 ⟨rfl, k5⟩
  have b5 := below_keeps k5 b4 lB4
  have lB5 := lt_of_block b5
  have kW5 := ((kB.trans k2).trans k4).trans k5
  clear x0 x1 x2 x3 y0 y1 y2 y3 b1 b2 b4 k2 k4 k5 kB hl hng
  go_wp2_with fail
  refine (newwriter_any _ (size : Int) (by omega) (by have := HM.out; omega)).mono ?_
  rintro e w6 ⟨rfl, hw6, k6⟩
  have b6 := below_keeps k6 b5 lB5
  have kW6 := kW5.trans k6
  have hzM := kW5.size
  have hM0 : w.heap.size < w5.heap.size := lB5
  clear b5 lB5 kW5 k6 lB lB4
  generalize w5.heap.size = M at *
  have FK : Hid (∀ w', Chg (fun j => M ≤ j) w6 w' → w'.cell? ⟨w.heap.size, 1, none⟩ = some (.slice ka n.keys.length kc)) := fun w' kk => (cells4 (kk.keeps b6 (by omega))).2.1
  have h30 : (size : Int) ≤ 1073741824 := by have := HM.out; omega
  have H30 := Lib.hid h30
  clear h30
  go_wp2_with fail
  refine (raw_any _ M M size _ hw6 H30.out magic (by have := HM.out; show (0 : Int) + 4 ≤ size; omega)).mono ?_
  rintro e w7 ⟨rfl, hw7, hc7⟩
  go_wp2_with fail
  refine (wU8_any _ M M size _ hw7 H30.out 2 (by omega) (by omega) (by have := HM.out; show (4 : Int) + 1 ≤ size; omega)).mono ?_
  rintro e w8 ⟨rfl, hw8, hc8⟩
  have hr8 := hc7.trans hc8
  go_wp2_with fail
  refine (wU8_any _ M M size _ hw8 H30.out 0 (by omega) (by omega) (by have := HM.out; show (5 : Int) + 1 ≤ size; omega)).mono ?_
  rintro e w9 ⟨rfl, hw9, hc9⟩
  have hr9 := hr8.trans hc9
  have z1 := FK.out w9 hr9
  have hk1 : (n.keys.length : Int) ≤ 65535 := by have := HM.out; omega
  have hk0 : (0 : Int) ≤ (n.keys.length : Int) := by omega
  go_wp2_with fail
  refine (wU16_any _ M M size _ hw9 H30.out n.keys.length (by omega) (by omega) (by have := HM.out; show (6 : Int) + 2 ≤ size; omega)).mono ?_
  rintro e wa ⟨rfl, hwa, hca⟩
  have hra := hr9.trans hca
  clear z1 hk1 hk0
  have hssz : (strOfNums n.body).size = n.body.length := strOfNums_size _
  have hb1 : (n.body.length : Int) ≤ 4294967295 := by have := HM.out; omega
  have hb0 : (0 : Int) ≤ (n.body.length : Int) := by omega
  go_wp2_with fail
  refine (wU32_any _ M M size _ hwa H30.out n.body.length (by omega) (by omega) (by have := HM.out; show (8 : Int) + 4 ≤ size; omega)).mono ?_
  rintro e wb ⟨rfl, hwb, hcb⟩
  have hrb := hra.trans hcb
  rw [List.nil_append, ← HHD.out] at hwb
  go_wp2_with fail
  refine (done_any _ M M size _ hwb).mono ?_
  rintro e wc ⟨rfl, rfl⟩
  have hsh0 : (strOfNums n.head).size = 12 := by rw [strOfNums_size, ND.head_len]
  go_wp2_with fail
  have hcz : (strOfNums n.head ++ strOfNums n.body).size ≤ 1073741824 := by rw [ByteArray.size_append, hsh0, hssz]; have := HM.out; omega
  refine (crc_any _ _ hcz).mono ?_
  rintro e wd ⟨rfl, rfl⟩
  have hcr := crcOf_in (strOfNums n.head ++ strOfNums n.body)
  have HCR : Hid (crcOf (strOfNums n.head ++ strOfNums n.body) = n.crc) := rfl
  rw [HCR.out] at hcr ⊢
  clear hcz
  obtain ⟨hcr0, hcr1⟩ := hcr
  go_wp2_with fail
  refine (wU32_any _ M M size _ hwb H30.out _ hcr0 hcr1 (by have := HM.out; rw [ND.head_len]; omega)).mono ?_
  rintro e we ⟨rfl, hwe, hce⟩
  have hre := hrb.trans hce
  go_wp2_with fail
  refine (raw_any _ M M size _ hwe H30.out _ (by rw [List.length_append, ND.head_len, be4_len, hssz]; have := HM.out; omega)).mono ?_
  rintro e wf ⟨rfl, hwf, hcf⟩
  have hrf := hre.trans hcf
  have hen : n.head ++ be4 n.crc ++ bts (strOfNums n.body) = n.enc := rfl
  rw [hen] at hwf
  clear hen
  go_wp2_with fail
  refine (done_any _ M M size _ hwf).mono ?_
  rintro e wg ⟨rfl, rfl⟩
  have hel : (strOfNums n.enc).size ≤ size := by rw [strOfNums_size, ND.enc_len]; have := HM.out; omega
  have HEL := Lib.hid hel
  clear hel hssz hsh0 hcr0 hcr1
  have kz := hrf.size
  have hg0 := block_new wg (.cells (bcells (List.replicate size 0)).toArray 5)
  have hcells : (bcells (List.replicate size 0)).toArray.toList.take 0 ++ Lib.byteCells (strOfNums n.enc).data.toList ++ (bcells (List.replicate size 0)).toArray.toList.drop (0 + (strOfNums n.enc).size) = bcells (n.out size) := by
    rw [byteCells_bts, strOfNums_size, ND.out, bcells_append]
    simp [bcells, List.map_replicate]
  have hcp : (Builtin.copy_ #[36, 9] 3 #[.slice (some ⟨wg.heap.size, 0, none⟩) size size, .string (strOfNums n.enc)]).run Try.prog (wg.alloc (.cells (bcells (List.replicate size 0)).toArray 5)) = .ok (goInt (strOfNums n.enc).size) ((wg.alloc (.cells (bcells (List.replicate size 0)).toArray 5)).setRow wg.heap.size (bcells (n.out size)).toArray) := by
    rw [Lib.run_copy_row_string (P := Try.prog) (wg.alloc (.cells (bcells (List.replicate size 0)).toArray 5)) 36 9 3 5 wg.heap.size 0 size size (strOfNums n.enc) (bcells (List.replicate size 0)).toArray 5 Try.underlying36 (by rw [hi5]; simp [hz1]) hg0 HEL.out (by simp; exact HEL.out), hcells]
  clear hcells
  go_wp2_with fail
  go_ret2
  have hset := setRow_heap (wg.alloc (.cells (bcells (List.replicate size 0)).toArray 5)) wg.heap.size (bcells (List.replicate size 0)).toArray (bcells (n.out size)).toArray 5 (0, 0) hg0
  have hol : (n.out size).length = size := ND.out_len (by have := HEL.out; rw [strOfNums_size] at this; exact this)
  have hB0 : w.heap.size ≤ wg.heap.size := by have := kW6.size; omega
  refine ⟨⟨_, rfl, by rw [bcells_len, hol, Nat.mul_one], _, _, rfl, Nat.le_refl _, by unfold maxLen; have := HM.out; omega, fun _ => ⟨wg.heap.size, 0, rfl, hB0, lt_of_block hset, fun j u hj => ?_⟩⟩, ?_⟩
  · rw [cell_of_block hset]
    simpa using hj
  · refine Below.trans kW6 (Below.trans (hrf.below kW6.size (fun i hi e => by omega)) ?_)
    exact (chg_setRow (own := fun j => w.heap.size ≤ j) ((Chg.refl _ _).alloc _) _ _ hB0).below hB0 (fun i hi e => by omega)
end Go.Proofs.Ytjdkalimaldofaa
