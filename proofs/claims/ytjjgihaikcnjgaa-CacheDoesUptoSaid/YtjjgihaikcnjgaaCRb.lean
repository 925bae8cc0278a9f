/-
  The document's cache: next.
-/
import Derived.Test.YtjjgihaikcnjgaaCRa
import Derived.BigQuiet
import Derived.Test.YtjjgihaikcnjgaaCOrdP
import Derived.Deep.LoopGhost
namespace Go.Proofs.Ytjjgihaikcnjgaa
open Go.RowKit Go.Maps
set_option linter.unusedSimpArgs false
set_option linter.unusedVariables false
set_option maxRecDepth 100000

theorem below_drewN {B : Nat} {a b : World} (h : Below B a b) (q : Nat) : Below B a (b.drewN q) := ⟨h.os, h.tape, h.output, h.size, h.block⟩
/-- the place of the one that is written next, among the first k; none: -1 -/
def better (l : List Frm) (o : Int) : Nat → Int
  | 0 => -1
  | k + 1 => match l[k]? with
    | none => better l o k
    | some f => if Frm.due o f = true ∧ (better l o k < 0 ∨ ∃ g, l[(better l o k).toNat]? = some g ∧ Frm.before f g = true) then (k : Int) else better l o k
theorem better_lt (l : List Frm) (o : Int) : ∀ k, better l o k = -1 ∨ ∃ m : Nat, m < k ∧ m < l.length ∧ better l o k = m
  | 0 => Or.inl rfl
  | k + 1 => by
    have ih := better_lt l o k
    have ih' : better l o k = -1 ∨ ∃ m : Nat, m < k + 1 ∧ m < l.length ∧ better l o k = m := ih.imp id (fun ⟨m, h1, h2, h3⟩ => ⟨m, by omega, h2, h3⟩)
    unfold better
    cases hl : l[k]? with
    | none => exact ih'
    | some f =>
      have hk : k < l.length := by
        rcases Nat.lt_or_ge k l.length with h | h
        · exact h
        · rw [List.getElem?_eq_none h] at hl; cases hl
      simp only
      split
      · exact Or.inr ⟨k, by omega, hk, rfl⟩
      · exact ih'
theorem better_skip {l : List Frm} {o : Int} {k : Nat} (hk : k < l.length) (h : Frm.due o l[k] = false) : better l o (k + 1) = better l o k := by
  show (match l[k]? with | none => _ | some f => _) = _
  rw [List.getElem?_eq_getElem hk]
  simp only
  rw [if_neg (by rw [h]; simp)]
theorem better_first {l : List Frm} {o : Int} {k : Nat} (hk : k < l.length) (h : Frm.due o l[k] = true) (hb : better l o k = -1) : better l o (k + 1) = k := by
  show (match l[k]? with | none => _ | some f => _) = _
  rw [List.getElem?_eq_getElem hk]
  simp only
  rw [if_pos ⟨h, Or.inl (by omega)⟩]
theorem better_than {l : List Frm} {o : Int} {k m : Nat} (hk : k < l.length) (hm : m < l.length) (h : Frm.due o l[k] = true) (hb : better l o k = m) : better l o (k + 1) = if Frm.before l[k] l[m] = true then (k : Int) else m := by
  show (match l[k]? with | none => _ | some f => _) = _
  rw [List.getElem?_eq_getElem hk]
  simp only
  rw [hb]
  have e : ((m : Int)).toNat = m := Int.toNat_natCast m
  rw [e, List.getElem?_eq_getElem hm]
  by_cases hx : Frm.before l[k] l[m] = true
  · rw [if_pos ⟨h, Or.inr ⟨_, rfl, hx⟩⟩, if_pos hx]
  · rw [if_neg, if_neg hx]
    rintro ⟨_, h1 | ⟨g, h1, h2⟩⟩
    · omega
    · simp only [Option.some.injEq] at h1; subst h1; exact hx h2
section
variable {w : World} {col : Nat → Nat} {c b db : Nat} {s : CS} {fv : Value} {fs : List (Frm × Value)}
set_option maxHeartbeats 4000000 in
theorem rnext_any (h : RCacheIn w col c b s db fv fs) (ok : s.Ok) (o : Int) :
    Calls Try.prog 80 #[ptr b, .int .u64 o] w fun e w' => e = .returned (.int .i64 (better s.frames o s.frames.length)) ∧ Below w.heap.size w w' := by
  obtain ⟨-, -, b2, -, -, -, -⟩ := cells_r h.block
  obtain ⟨a, cap, rfl⟩ := h.shape
  have HL := Lib.hid h.list.rd
  have hlen : fs.length ≤ 4096 := by have := h.len; have := ok.len; have := ok.room1; omega
  have HLE := Lib.hid h.len
  have HFR : Hid (∀ j (hj : j < fs.length) (hj2 : j < s.frames.length), s.frames[j] = fs[j].1) := fun j hj hj2 => by simp [← h.fr]
  have HBY := Lib.hid h.shapes
  have hbl := h.lt
  have HB2 := Lib.hid b2
  clear h ok
  unfold ptr
  go_enter Try.func80, Try.ntmps80
  go_wp2_with fail
  go_loopw [5, 13] (fun av i wr => ∃ j : Nat, j ≤ fs.length ∧ i = .int .i64 j ∧ av = .int .i64 (better s.frames o j) ∧ Below w.heap.size w wr) (fun _ i _ => fs.length - (intOf i).toNat)
  case atStart => exact ⟨0, Nat.zero_le _, rfl, rfl, Below.refl _ _⟩
  case round =>
    obtain ⟨j, hj, rfl, rfl, hb⟩ := hrel
    have j0 : (0 : Int) ≤ (j : Int) := by omega
    have j9 : (j : Int) ≤ 4096 := by omega
    by_cases hjn : j < fs.length
    · have j1 : (j : Int) < (fs.length : Int) := by omega
      obtain ⟨g, off, rfl, hg, q0, q1, q2, q3, q4⟩ := rframe_cells rfl (HL.out.below hb) hjn
      obtain ⟨av, cv, ev⟩ := HBY.out _ (List.getElem_mem hjn)
      have hjs : j < s.frames.length := by rw [← HLE.out]; exact hjn
      have HB := Lib.hid hb
      have HSK : Hid (Frm.due o fs[j].1 = false → better s.frames o (j + 1) = better s.frames o j) := fun e => better_skip hjs (by rw [HFR.out j hjn hjs]; exact e)
      have HFI : Hid (Frm.due o fs[j].1 = true → better s.frames o j = -1 → better s.frames o (j + 1) = j) := fun e => better_first hjs (by rw [HFR.out j hjn hjs]; exact e)
      have HTH : Hid (Frm.due o fs[j].1 = true → ∀ m (hm : m < fs.length), better s.frames o j = m → better s.frames o (j + 1) = if Frm.before fs[j].1 fs[m].1 = true then (j : Int) else m) := fun e m hm eb => by
        have hms : m < s.frames.length := by rw [← HLE.out]; exact hm
        have := better_than hjs hms (by rw [HFR.out j hjn hjs]; exact e) eb
        rw [HFR.out j hjn hjs, HFR.out m hm hms] at this
        exact this
      have HLT := Lib.hid (better_lt s.frames o j)
      clear hb hjs b2
      generalize hfj : fs[j] = fj at *
      obtain ⟨⟨fsec, fp, fd, fo, fb⟩, fw⟩ := fj
      simp only at q0 q1 q2 q3 q4 ev
      subst ev
      clear hfj
      generalize hnx : better s.frames o (j + 1) = nx at *
      have HNX := Lib.hid hnx
      clear hnx
      generalize better s.frames o j = at0 at *
      cases fd with
      | false =>
        have HN := Lib.hid (HSK.out rfl)
        clear HSK HFI HTH HLT
        go_wp2_with fail
        go_roundw
        case rel => exact ⟨j + 1, by omega, by go_num, by rw [HNX.out, HN.out], HB.out.alloc HB.out.size _⟩
        case measure => simp [intOf]; omega
      | true =>
        by_cases ho : fo ≤ o
        · have hdue : Frm.due o ⟨fsec, fp, true, fo, fb⟩ = true := by simp [Frm.due, ho]
          have hno : ¬ o < fo := by omega
          have hdo : decide (o < fo) = false := by simp; omega
          have b2w := (HB.out.cell (p := ⟨b, 2, none⟩) hbl).trans HB2.out
          have hblw : b < wr.heap.size := Nat.lt_of_lt_of_le hbl HB.out.size
          rcases HLT.out with rfl | ⟨m, hmj, hms, rfl⟩
          · have HN := Lib.hid (HFI.out hdue rfl)
            clear HSK HFI HTH HLT ho hdue
            go_wp2_with fail
            go_quiet (fail)
            go_wp2_with fail
            go_roundw
            case rel => exact ⟨j + 1, by omega, by go_num, by rw [HNX.out, HN.out], below_drewN (HB.out.alloc HB.out.size _) _⟩
            case measure => simp [intOf]; omega
          · have hmf : m < fs.length := by have := HLE.out; omega
            have HN := Lib.hid (HTH.out hdue m hmf rfl)
            obtain ⟨g', off', ea, hg', p0, p1, p2, p3, p4⟩ := rframe_cells rfl (HL.out.below HB.out) hmf
            simp only [Option.some.injEq, Addr.mk.injEq, and_true] at ea
            obtain ⟨rfl, rfl⟩ := ea
            have m0 : (0 : Int) ≤ (m : Int) := by omega
            have m1 : (m : Int) < (fs.length : Int) := by omega
            have m2 : ¬ (m : Int) < 0 := by omega
            have m3 : decide ((m : Int) < 0) = false := by simp
            clear HSK HFI HTH HLT ho hdue hmj hms
            generalize fs[m] = fm at *
            obtain ⟨⟨gsec, gp, gd, go, gb⟩, gw⟩ := fm
            simp only at p0 p1 p2 p3 p4 HN
            have hside : (decide (fo < go) = true) ∨ (decide (fo < go) = false ∧ (fo == go) = true ∧ decide (fsec < gsec) = true) ∨ (decide (fo < go) = false ∧ (fo == go) = true ∧ decide (fsec < gsec) = false) ∨ (decide (fo < go) = false ∧ (fo == go) = false) := by
              cases h1 : decide (fo < go) <;> cases h2 : (fo == go) <;> cases h3 : decide (fsec < gsec) <;> simp
            have hbe : Frm.before ⟨fsec, fp, true, fo, fb⟩ ⟨gsec, gp, gd, go, gb⟩ = (decide (fo < go) || ((fo == go) && decide (fsec < gsec))) := rfl
            rw [hbe] at HN
            clear hbe
            rcases hside with s1 | ⟨s1, s2, s3⟩ | ⟨s1, s2, s3⟩ | ⟨s1, s2⟩
            · have HN2 : nx = (j : Int) := by rw [HN.out]; simp [s1]
              have HN := Lib.hid HN2
              clear HN2
              go_wp2_with fail
              go_quiet (fail)
              go_wp2_with fail
              go_roundw
              case rel => exact ⟨j + 1, by omega, by go_num, by rw [HNX.out, HN.out], below_drewN (HB.out.alloc HB.out.size _) _⟩
              case measure => simp [intOf]; omega
            · have HN2 : nx = (j : Int) := by rw [HN.out]; simp [s1, s2, s3]
              have HN := Lib.hid HN2
              clear HN2
              go_wp2_with fail
              go_quiet (fail)
              go_wp2_with fail
              go_roundw
              case rel => exact ⟨j + 1, by omega, by go_num, by rw [HNX.out, HN.out], below_drewN (HB.out.alloc HB.out.size _) _⟩
              case measure => simp [intOf]; omega
            · have HN2 : nx = (m : Int) := by rw [HN.out]; simp [s1, s2, s3]
              have HN := Lib.hid HN2
              clear HN2
              go_wp2_with fail
              go_quiet (fail)
              go_wp2_with fail
              go_roundw
              case rel => exact ⟨j + 1, by omega, by go_num, by rw [HNX.out, HN.out], below_drewN (HB.out.alloc HB.out.size _) _⟩
              case measure => simp [intOf]; omega
            · have HN2 : nx = (m : Int) := by rw [HN.out]; simp [s1, s2]
              have HN := Lib.hid HN2
              clear HN2
              go_wp2_with fail
              go_quiet (fail)
              go_wp2_with fail
              go_roundw
              case rel => exact ⟨j + 1, by omega, by go_num, by rw [HNX.out, HN.out], below_drewN (HB.out.alloc HB.out.size _) _⟩
              case measure => simp [intOf]; omega
        · have hgt : o < fo := by omega
          have HN := Lib.hid (HSK.out (by simp [Frm.due, ho]))
          clear HSK HFI HTH HLT ho
          go_wp2_with fail
          go_roundw
          case rel => exact ⟨j + 1, by omega, by go_num, by rw [HNX.out, HN.out], HB.out.alloc HB.out.size _⟩
          case measure => simp [intOf]; omega
    · have HB := Lib.hid hb
      obtain rfl : j = fs.length := by omega
      have HLEN := Lib.hid HLE.out
      clear hb
      go_wp2_with fail
      go_ret
      rw [← HLEN.out]
      exact ⟨rfl, HB.out⟩
end
end Go.Proofs.Ytjjgihaikcnjgaa
/-
  The document's WriteUpTo as plain data: next's frames are those of the sorted list, one after the other.
-/
namespace Go.Proofs.Ytjjgihaikcnjgaa
open Go.RowKit Go.Maps
set_option linter.unusedSimpArgs false
set_option linter.unusedVariables false
set_option maxRecDepth 100000

theorem before_iff (a b : Frm) : Frm.before a b = true ↔ a.order < b.order ∨ (a.order = b.order ∧ a.sector < b.sector) := by simp [Frm.before]
theorem before_not (a b : Frm) : Frm.before a b = false ↔ ¬ (a.order < b.order ∨ (a.order = b.order ∧ a.sector < b.sector)) := by
  rw [← before_iff]; simp
theorem better_inv (l : List Frm) (o : Int) : ∀ k, k ≤ l.length → (better l o k = -1 ∧ ∀ i (h : i < k) (h2 : i < l.length), Frm.due o l[i] = false) ∨
    (∃ m, ∃ hm : m < l.length, m < k ∧ better l o k = m ∧ Frm.due o l[m] = true ∧ ∀ i (h : i < k) (h2 : i < l.length), Frm.due o l[i] = true → Frm.before l[i] l[m] = false)
  | 0, _ => Or.inl ⟨rfl, fun i h => by omega⟩
  | k + 1, hk => by
    have hkl : k < l.length := by omega
    have ih := better_inv l o k (by omega)
    cases hd : Frm.due o l[k] with
    | false =>
      rw [better_skip hkl hd]
      rcases ih with ⟨h1, h2⟩ | ⟨m, hm, h0, h1, h2, h3⟩
      · refine Or.inl ⟨h1, fun i h hl => ?_⟩
        by_cases e : i = k
        · subst e; exact hd
        · exact h2 i (by omega) hl
      · refine Or.inr ⟨m, hm, by omega, h1, h2, fun i h hl hdi => ?_⟩
        by_cases e : i = k
        · subst e; rw [hd] at hdi; cases hdi
        · exact h3 i (by omega) hl hdi
    | true =>
      rcases ih with ⟨h1, h2⟩ | ⟨m, hm, h0, h1, h2, h3⟩
      · refine Or.inr ⟨k, hkl, by omega, better_first hkl hd h1, hd, fun i h hl hdi => ?_⟩
        by_cases e : i = k
        · subst e; rw [before_not]; omega
        · rw [h2 i (by omega) hl] at hdi; cases hdi
      · rw [better_than hkl hm hd h1]
        by_cases hb : Frm.before l[k] l[m] = true
        · rw [if_pos hb]
          refine Or.inr ⟨k, hkl, by omega, rfl, hd, fun i h hl hdi => ?_⟩
          by_cases e : i = k
          · subst e; rw [before_not]; omega
          · have h4 := h3 i (by omega) hl hdi
            rw [before_not] at h4 ⊢
            rw [before_iff] at hb
            omega
        · rw [if_neg hb]
          refine Or.inr ⟨m, hm, by omega, rfl, h2, fun i h hl hdi => ?_⟩
          by_cases e : i = k
          · subst e; simpa using hb
          · exact h3 i (by omega) hl hdi
theorem fold_dirty : ∀ (L : List Frm) (t : CS) (g : Frm), g ∈ (L.foldl CS.write1 t).frames → g.dirty = true → g ∈ t.frames ∧ ∀ f ∈ L, f.sector ≠ g.sector
  | [], t, g, h, _ => ⟨h, by simp⟩
  | f :: L, t, g, h, hd => by
    obtain ⟨h1, h2⟩ := fold_dirty L (t.write1 f) g h hd
    obtain ⟨x, hx, e⟩ := List.mem_map.1 h1
    by_cases hi : Frm.is f.sector x = true
    · rw [if_pos hi] at e
      rw [← e] at hd
      cases hd
    · rw [if_neg hi] at e
      subst e
      refine ⟨hx, fun y hy => ?_⟩
      rcases List.mem_cons.1 hy with rfl | hy
      · intro e; exact hi (by simp [Frm.is, e])
      · exact h2 y hy
theorem fold_stays : ∀ (L : List Frm) (t : CS) (x : Frm), x ∈ t.frames → (∀ f ∈ L, f.sector ≠ x.sector) → x ∈ (L.foldl CS.write1 t).frames
  | [], _, _, h, _ => h
  | f :: L, t, x, h, hs => fold_stays L (t.write1 f) x (List.mem_map.2 ⟨x, h, by rw [if_neg]; simp only [Frm.is, beq_iff_eq]; exact fun e => hs f (by simp) e.symm⟩) (fun y hy => hs y (by simp [hy]))
theorem fold_Ok : ∀ (L : List Frm) (t : CS), t.Ok → (∀ f ∈ L, (0 ≤ f.sector ∧ f.sector < t.d.count) ∧ (f.bytes.length : Int) = t.d.size) → (L.foldl CS.write1 t).Ok ∧ (L.foldl CS.write1 t).d.count = t.d.count ∧ (L.foldl CS.write1 t).d.size = t.d.size ∧ (L.foldl CS.write1 t).d.pending.length ≤ t.d.pending.length + L.length
  | [], t, ok, _ => ⟨ok, rfl, rfl, by simp⟩
  | f :: L, t, ok, h => by
    obtain ⟨h0, h1⟩ := h f (by simp)
    have ok1 := write1_Ok ok h0 h1
    obtain ⟨a, b, c, d⟩ := fold_Ok L (t.write1 f) ok1 (fun g hg => by rw [write1_d, wrote_count, wrote_size]; exact h g (by simp [hg]))
    refine ⟨a, b.trans (by rw [write1_d, wrote_count]), c.trans (by rw [write1_d, wrote_size]), ?_⟩
    have := wrote_pend t.d f.sector f.bytes
    rw [write1_d] at d
    simp only [List.foldl_cons, List.length_cons]
    omega
/-- so many are written -/
def CS.part (s : CS) (o : Int) (j : Nat) : CS := ((s.due o).take j).foldl CS.write1 s
theorem due_fine {s : CS} (ok : s.Ok) (o : Int) : ∀ f ∈ s.due o, (0 ≤ f.sector ∧ f.sector < s.d.count) ∧ (f.bytes.length : Int) = s.d.size := fun f hf => ⟨ok.at0 f (due_mem.1 hf).1, ok.size f (due_mem.1 hf).1⟩
theorem part_Ok {s : CS} (ok : s.Ok) (o : Int) (j : Nat) : (s.part o j).Ok ∧ (s.part o j).d.count = s.d.count ∧ (s.part o j).d.size = s.d.size ∧ (s.part o j).d.pending.length ≤ s.d.pending.length + 4096 := by
  obtain ⟨a, b, c, d⟩ := fold_Ok ((s.due o).take j) s ok (fun f hf => due_fine ok o f (List.mem_of_mem_take hf))
  refine ⟨a, b, c, Nat.le_trans d (Nat.add_le_add_left ?_ _)⟩
  have h1 : (s.due o).length ≤ s.frames.length := by unfold CS.due; rw [List.length_mergeSort]; exact List.length_filter_le _ _
  have := ok.len
  have := ok.room1
  rw [List.length_take]; omega
theorem part_zero (s : CS) (o : Int) : s.part o 0 = s := rfl
theorem part_all (s : CS) (o : Int) : s.part o (s.due o).length = s.upTo o := by unfold CS.part CS.upTo; rw [List.take_length]
theorem part_succ (s : CS) (o : Int) {j : Nat} (h : j < (s.due o).length) : s.part o (j + 1) = (s.part o j).write1 (s.due o)[j] := by
  unfold CS.part; rw [List.take_succ_eq_append_getElem h, List.foldl_append]; rfl
theorem due_len {s : CS} (ok : s.Ok) (o : Int) : (s.due o).length ≤ 4096 := by
  have h1 : (s.due o).length ≤ s.frames.length := by unfold CS.due; rw [List.length_mergeSort]; exact List.length_filter_le _ _
  have := ok.len
  have := ok.room1
  omega
theorem due_sorted2 (t : CS) (o : Int) : (t.due o).Pairwise (fun x y => Frm.before y x = false) := by
  have h : (t.due o).Pairwise (fun x y => (!Frm.before y x) = true) := by
    unfold CS.due
    refine List.pairwise_mergeSort (fun a b c h1 h2 => ?_) (fun a b => ?_) _
    · simp only [Bool.not_eq_true', before_not] at *
      omega
    · simp only [Bool.or_eq_true, Bool.not_eq_true', before_not]
      omega
  exact h.imp (fun {a b} k => by simpa using k)
theorem part_next {s : CS} (ok : s.Ok) (o : Int) {j : Nat} (h : j < (s.due o).length) : ∃ m, ∃ hm : m < (s.part o j).frames.length, better (s.part o j).frames o (s.part o j).frames.length = m ∧ (s.part o j).frames[m] = (s.due o)[j] := by
  have okp := (part_Ok ok o j).1
  have hnd := due_nodup ok o
  have hne : ∀ i i' (hi : i < (s.due o).length) (hi' : i' < (s.due o).length), (s.due o)[i].sector = (s.due o)[i'].sector → i = i' := fun i i' hi hi' e => by
    have h1 : ((s.due o).map Frm.sector)[i]'(by simpa using hi) = ((s.due o).map Frm.sector)[i']'(by simpa using hi') := by simpa using e
    exact (List.getElem_inj hnd).1 h1
  have hin : (s.due o)[j] ∈ (s.part o j).frames := fold_stays _ _ _ (due_mem.1 (List.getElem_mem h)).1 (fun f hf e => by
    obtain ⟨i, hi, rfl⟩ := List.getElem_of_mem hf
    rw [List.length_take] at hi
    rw [List.getElem_take] at e
    have := hne _ _ _ h e
    omega)
  have hjd := (due_mem.1 (List.getElem_mem h)).2
  obtain ⟨q, hq, eq⟩ := List.getElem_of_mem hin
  rcases better_inv (s.part o j).frames o _ (Nat.le_refl _) with ⟨h1, h2⟩ | ⟨m, hm, h0, h1, h2, h3⟩
  · have := h2 q hq hq
    rw [eq, hjd] at this; cases this
  · refine ⟨m, hm, h1, ?_⟩
    have hdm : (s.part o j).frames[m].dirty = true := by simp [Frm.due] at h2; exact h2.1
    obtain ⟨k1, k2⟩ := fold_dirty _ _ _ (List.getElem_mem hm) hdm
    have hmem : (s.part o j).frames[m] ∈ s.due o := due_mem.2 ⟨k1, h2⟩
    obtain ⟨i, hi, ei⟩ := List.getElem_of_mem hmem
    have hij : j ≤ i := by
      rcases Nat.lt_or_ge i j with hlt | hge
      · have hmt : (s.due o)[i] ∈ (s.due o).take j := List.mem_iff_getElem.2 ⟨i, by rw [List.length_take]; omega, by simp⟩
        exact absurd (by rw [ei]) (k2 _ hmt)
      · exact hge
    have hb1 := h3 q hq hq (by rw [eq]; exact hjd)
    rw [eq] at hb1
    have hb2 : Frm.before (s.due o)[i] (s.due o)[j] = false := by
      by_cases e : i = j
      · subst e; rw [before_not]; omega
      · exact (List.pairwise_iff_getElem.1 (due_sorted2 s o)) j i h hi (by omega)
    rw [ei] at hb2
    rw [before_not] at hb1 hb2
    exact uniqF okp (List.getElem_mem hm) hin (by omega)
theorem part_end {s : CS} (ok : s.Ok) (o : Int) : better (s.upTo o).frames o (s.upTo o).frames.length = -1 := by
  rw [← part_all]
  rcases better_inv (s.part o (s.due o).length).frames o _ (Nat.le_refl _) with ⟨h1, h2⟩ | ⟨m, hm, h0, h1, h2, h3⟩
  · exact h1
  · have hdm : (s.part o (s.due o).length).frames[m].dirty = true := by simp [Frm.due] at h2; exact h2.1
    obtain ⟨k1, k2⟩ := fold_dirty _ _ _ (List.getElem_mem hm) hdm
    have hmem := due_mem.2 ⟨k1, h2⟩
    rw [List.take_length] at k2
    exact absurd rfl (k2 _ hmem)
end Go.Proofs.Ytjjgihaikcnjgaa
/-
  The document's cache: WriteUpTo.
-/
namespace Go.Proofs.Ytjjgihaikcnjgaa
open Go.RowKit Go.Maps
set_option linter.unusedSimpArgs false
set_option linter.unusedVariables false
set_option maxRecDepth 100000

section
variable {w : World} {col : Nat → Nat} {c b db : Nat} {s : CS} {fv : Value} {fs : List (Frm × Value)}
theorem refwrite1_law {d : DS} {b : Nat} (h : RefAt w col c b d) (ok : d.Ok) (hnm : Norm w col) (hc : 1 < c) (n : Int) (v : Value) (l : List Int) (hv : RdAt w (fun k => col k = 1) 1 v l.length (bcells l)) (hp : d.pending.length ≤ 1073741824) (hf : d.fit n l = true) :
    Calls Try.prog 81 #[.pointer (some ⟨b, 0, none⟩), .int .i64 n, v] w fun e w' => e = .returned (.int .i64 0) ∧ RDid c col b (d.wrote n l) w w' := by
  obtain ⟨t, h, rfl⟩ := h
  rw [← norm_wrote]
  rw [norm_fit] at hf
  unfold DS.wrote
  obtain ⟨h0, h1, h2⟩ := fit_iff.1 hf
  refine (refwrite_ok w col c b t n _ v l h hc (ok_left ok) hv h0 h1 h2 ok.size1 hp (fun k e e' => by unfold inC at e'; omega) hnm).mono ?_
  rintro e w' ⟨rfl, ⟨col', hd, he, hn'⟩, hk⟩
  rw [hf]
  exact ⟨rfl, col', ⟨_, hd, by simp⟩, he, hk, hn'⟩
theorem RCacheIn.disked {w' : World} {col' : Nat → Nat} {d' : DS} (h : RCacheIn w col c b s db fv fs) (hc : 1 < c) (k : Step c col col' w w') (hd : RefAt w' col' c db d') : RCacheIn w' col' c b { s with d := d' } db fv fs := by
  have hcb := h.cb
  have hk : ∀ i, i < w.heap.size → (col i = 1 ∨ col i = c + 3 ∨ col i = c + 4) → w'.heap[i]? = w.heap[i]? := fun i hi e => k.chg.block i hi (fun e' => by unfold inC at e'; omega)
  exact ⟨(hk b h.lt (Or.inr (Or.inl h.cb))).trans h.block, by rw [k.ext b h.lt]; exact h.cb, hd, h.fr, h.list.keep (fun i hi e => hk i hi (Or.inr (Or.inr e))) (fun i hi e => by rw [k.ext i hi]; exact e), fun p hp => (h.bytes p hp).keep (fun i hi e => hk i hi (Or.inl e)) (fun i hi e => by rw [k.ext i hi]; exact e) k.chg.size⟩
set_option maxHeartbeats 4000000 in
theorem rupto_any (h : RCacheIn w col c b s db fv fs) (hc : 1 < c) (hnm : Norm w col) (ok : s.Ok) (hp : s.d.pending.length ≤ 1073700000) (o : Int) :
    Calls Try.prog 59 #[ptr b, .int .u64 o] w fun e w' => e = .returned (.int .i64 0) ∧ RNow w col c b db (s.upTo o) w' := by
  have HN := Lib.hid (rnext_any h ok o)
  have H := Lib.hid h
  have HNM := Lib.hid hnm
  have HOK := Lib.hid ok
  have HP := Lib.hid hp
  clear h hnm ok hp
  unfold ptr at *
  go_enter Try.func59, Try.ntmps59
  go_wp2_with fail
  refine HN.out.mono ?_
  rintro e w1 ⟨rfl, k1⟩
  go_wp2_with fail
  have h1 := H.out.below k1
  have q1 := KStep.below (c := c) HNM.out k1
  clear HN k1
  generalize hM : (s.due o).length = M at *
  have HM := Lib.hid hM
  go_loopg [5] M (fun k iv wr => ∃ fv fs col' j, j + k = M ∧ iv = .int .i64 (better (s.part o j).frames o (s.part o j).frames.length) ∧ RCacheIn wr col' c b (s.part o j) db fv fs ∧ KStep c col col' w wr)
  case atStart => exact ⟨fv, fs, col, 0, by omega, rfl, h1, q1⟩
  case round =>
    obtain ⟨fv1, fs1, col1, j, hjk, rfl, hr, kr⟩ := hrel
    clear h1 q1
    by_cases hz : gk = 0
    · obtain rfl : j = (s.due o).length := by omega
      rw [part_all] at hr ⊢
      have HE := Lib.hid (part_end HOK.out o)
      have HR := Lib.hid hr
      have KR := Lib.hid kr
      clear hr kr hjk hM
      rw [HE.out]
      go_wp2_with fail
      go_ret
      exact ⟨rfl, col1, HR.out.at, KR.out⟩
    · have hj : j < (s.due o).length := by omega
      obtain ⟨m, hm, hbm, hfm⟩ := part_next HOK.out o hj
      obtain ⟨okp, pc, pz, pp⟩ := part_Ok HOK.out o j
      have hmf : m < fs1.length := by rw [hr.len]; exact hm
      have hff : fs1[m].1 = (s.due o)[j] := by
        have e : (s.part o j).frames[m] = fs1[m].1 := by simp [← hr.fr]
        rw [← e]; exact hfm
      have hps := part_succ s o hj
      have hmap := map_at okp hm Frm.clean
      rw [hfm] at hmap
      have hfin : s.part o (j + 1) = { s.part o j with d := (s.part o j).d.wrote fs1[m].1.sector fs1[m].1.bytes, frames := (s.part o j).frames.set m fs1[m].1.clean, writes := wrap64 ((s.part o j).writes + 1) } := by
        rw [hps, hff]
        unfold CS.write1
        rw [hmap]
      have hfit : (s.part o j).d.fit fs1[m].1.sector fs1[m].1.bytes = true := by
        rw [hff]
        obtain ⟨f1, f2⟩ := due_fine HOK.out o _ (List.getElem_mem hj)
        exact fit_iff.2 ⟨f1.1, by rw [pc]; exact f1.2, by rw [pz]; exact f2⟩
      have hpp : (s.part o j).d.pending.length ≤ 1073741824 := by have := HP.out; omega
      rw [hbm]
      have HFIN := Lib.hid hfin
      have HKR := Lib.hid kr
      have HGK : Hid (j + gk = M ∧ gk ≠ 0) := ⟨hjk, hz⟩
      have HNX : Hid (∀ W colW fvW fsW, RCacheIn W colW c b (s.part o (j + 1)) db fvW fsW → Calls Try.prog 80 #[.pointer (some ⟨b, 0, none⟩), .int .u64 o] W fun e w' => e = .returned (.int .i64 (better (s.part o (j + 1)).frames o (s.part o (j + 1)).frames.length)) ∧ Below W.heap.size W w') := fun W colW fvW fsW hh => rnext_any hh (part_Ok HOK.out o (j + 1)).1 o
      clear hfm hff hps hmap hfin hjk hz hbm pc pz pp hM kr
      generalize ht' : s.part o (j + 1) = t' at *
      have HT' := Lib.hid ht'
      clear ht'
      generalize s.part o j = t at *
      have hlen : fs1.length ≤ 4096 := by have := hr.len; have := okp.len; have := okp.room1; omega
      have m0 : (0 : Int) ≤ (m : Int) := by omega
      have m1 : (m : Int) < (fs1.length : Int) := by omega
      have m2 : (m : Int) ≤ 4096 := by omega
      obtain ⟨a1, cap1, rfl⟩ := hr.shape
      obtain ⟨g, off, rfl, hg, q0, q1, q2, q3, q4⟩ := rframe_cells rfl hr.list.rd hmf
      obtain ⟨av, cv, ev⟩ := hr.shapes _ (List.getElem_mem hmf)
      obtain ⟨b0, -, b2, -, -, b5, -⟩ := cells_r hr.block
      have hgc : col1 g = c + 4 := by
        rcases hr.list.2 with ⟨x, e1, e2⟩ | ⟨g', off', cap', cur, e1, ho, -⟩
        · omega
        · obtain ⟨e2, -, -⟩ := Value.slice.inj e1
          simp only [Option.some.injEq, Addr.mk.injEq, and_true] at e2
          rw [e2.1]; exact ho
      have hbc := hr.cb
      have hr' := hr.below (Bl.refl wr).drew
      have HR := Lib.hid hr'
      have hnm1 : Norm wr.drew col1 := HKR.out.norm
      have HW := Lib.hid (refwrite1_law hr'.disk okp.d hnm1 hc _ _ _ (hr'.bytes _ (List.getElem_mem hmf)) hpp hfit)
      have KS : Hid (∀ W, Chg (inC col1 c) wr.drew W → W.cell? ⟨b, 0, none⟩ = some (ptr db) ∧ W.cell? ⟨b, 2, none⟩ = some (.slice (some ⟨g, off, none⟩) fs1.length cap1) ∧ W.cell? ⟨g, off + m * 5, none⟩ = some (.int .i64 fs1[m].1.sector) ∧ W.cell? ⟨g, off + m * 5 + 4, none⟩ = some fs1[m].2) := fun W k => by
        have hb : ¬ inC col1 c b := by unfold inC; omega
        have hgn : ¬ inC col1 c g := by unfold inC; omega
        exact ⟨k.cellOf (w := wr.drew) b0 hb, k.cellOf (w := wr.drew) b2 hb, k.cellOf (w := wr.drew) q0 hgn, k.cellOf (w := wr.drew) q4 hgn⟩
      have HM2 : Hid (∀ W colW, RCacheIn W colW c b { t with d := t.d.wrote fs1[m].1.sector fs1[m].1.bytes } db (.slice (some ⟨g, off, none⟩) fs1.length cap1) fs1 → Norm W colW → ∃ fvN fsN, RCacheIn (((W.setCell ⟨g, off + m * 5 + 2, none⟩ (.bool false)).setCell ⟨g, off + m * 5 + 3, none⟩ (.int .u64 0)).setCell ⟨b, 5, none⟩ (.int .i64 (wrap64 (t.writes + 1)))) colW c b t' db fvN fsN ∧ KStep c colW colW W (((W.setCell ⟨g, off + m * 5 + 2, none⟩ (.bool false)).setCell ⟨g, off + m * 5 + 3, none⟩ (.int .u64 0)).setCell ⟨b, 5, none⟩ (.int .i64 (wrap64 (t.writes + 1)))) ∧ W.frozen? ⟨g, off + m * 5 + 2, none⟩ = false ∧ W.frozen? ⟨g, off + m * 5 + 3, none⟩ = false ∧ g ≠ b) := fun W colW hh hn => by
        obtain ⟨⟨h4, k4⟩, fr2, hgl, hgb⟩ := hh.turn hc hn hmf 2 (by omega) (.bool false) ({ fs1[m].1 with dirty := false }, fs1[m].2) rfl (show BytesAt W (fun i => colW i = 1) fs1[m].2 fs1[m].1.bytes from hh.bytes _ (List.getElem_mem hmf)) _ rfl
        have hmf2 : m < (fs1.set m ({ fs1[m].1 with dirty := false }, fs1[m].2)).length := by simpa using hmf
        have e1 : (fs1.set m ({ fs1[m].1 with dirty := false }, fs1[m].2))[m] = ({ fs1[m].1 with dirty := false }, fs1[m].2) := by simp
        obtain ⟨⟨h5, k5⟩, fr3, -, -⟩ := h4.turn hc k4.norm hmf2 3 (by omega) (.int .u64 0) (fs1[m].1.clean, fs1[m].2) (by rw [e1]; rfl) (by have := h4.bytes _ (List.getElem_mem hmf2); rw [e1] at this; exact this) _ rfl
        obtain ⟨h6, k6⟩ := h5.count hc k5.norm 5 (.int .i64 (wrap64 (t.writes + 1))) { t with d := t.d.wrote fs1[m].1.sector fs1[m].1.bytes, frames := t.frames.set m fs1[m].1.clean, writes := wrap64 (t.writes + 1) } rfl (by simp) rfl
        rw [← HFIN.out] at h6
        obtain ⟨-, fr3', -, -⟩ := hh.list.set (i := m * 5 + 3) (by rw [rcells_len]; omega) (.int .u64 0)
        rw [← Nat.add_assoc] at fr3'
        exact ⟨_, _, h6, (k4.trans k5).trans k6, fr2, fr3', hgb⟩
      have HT : Hid (∀ W colW, RCacheIn W colW c b { t with d := t.d.wrote fs1[m].1.sector fs1[m].1.bytes } db (.slice (some ⟨g, off, none⟩) fs1.length cap1) fs1 → (W.cell? ⟨b, 2, none⟩ = some (.slice (some ⟨g, off, none⟩) fs1.length cap1) ∧ W.cell? ⟨b, 5, none⟩ = some (.int .i64 t.writes) ∧ W.frozen? ⟨b, 5, none⟩ = false) ∧ (∃ v2 v3, W.cell? ⟨g, off + m * 5 + 2, none⟩ = some v2 ∧ W.cell? ⟨g, off + m * 5 + 3, none⟩ = some v3) ∧ b < W.heap.size ∧ g < W.heap.size) := fun W colW hh => by
        obtain ⟨-, -, c2, -, -, c5, -⟩ := cells_r hh.block
        obtain ⟨g', off', e, hg', p0, p1, p2, p3, p4⟩ := rframe_cells rfl hh.list.rd hmf
        simp only [Option.some.injEq, Addr.mk.injEq, and_true] at e
        obtain ⟨rfl, rfl⟩ := e
        exact ⟨⟨c2, c5, free_of_block hh.block 5⟩, ⟨_, _, p2, p3⟩, hh.lt, hg'⟩
      clear hr hr' hfit hpp b5 q1 q2 q3 hgc hbc hnm1 okp
      generalize fs1[m] = fm at *
      obtain ⟨⟨fsec, fp, fd, fo, fb⟩, fw⟩ := fm
      simp only at q0 q4 ev HW KS HM2 HT HFIN
      subst ev
      unfold ptr at *
      go_wp2_with fail
      go_region_held3 (fun W => W.cell? ⟨b, 0, none⟩ = some (.pointer (some ⟨db, 0, none⟩)) ∧ W.cell? ⟨b, 2, none⟩ = some (.slice (some ⟨g, off, none⟩) fs1.length cap1) ∧ W.cell? ⟨g, off + m * 5, none⟩ = some (.int .i64 fsec) ∧ W.cell? ⟨g, off + m * 5 + 4, none⟩ = some (.slice av fb.length cv)) (first | exact KS.out _ (Chg.refl _ _) | exact KS.out _ st3.chg) ((first | (go_at_call 81; refine HW.out.mono ?_; rintro e w3 ⟨rfl, col3, hd3, st3⟩)))
      have hr3 := HR.out.disked hc st3 hd3
      have hk3 := (HKR.out.drew).trans st3.k
      obtain ⟨⟨c2, c5, f5⟩, ⟨v2, v3, p2, p3⟩, hb3, hg3⟩ := HT.out w3 col3 hr3
      obtain ⟨fvN, fsN, h6, k6, fr2, fr3, hgb⟩ := HM2.out w3.drew col3 (hr3.below (Bl.refl w3).drew) hk3.norm
      have fr2' : w3.frozen? ⟨g, off + m * 5 + 2, none⟩ = false := fr2
      have fr3' : w3.frozen? ⟨g, off + m * 5 + 3, none⟩ = false := fr3
      have HK3 := Lib.hid hk3
      have H6 := Lib.hid h6
      have K6 := Lib.hid k6
      have hbg : b ≠ g := fun e => hgb e.symm
      have KB : Hid (∀ W, Chg (fun i => i = g) w3 W → W.cell? ⟨b, 2, none⟩ = some (.slice (some ⟨g, off, none⟩) fs1.length cap1)) := fun W k => k.cellOf c2 (fun e => hbg e)
      clear q0 q4 b0 b2 hg HW KS HM2 HT hr3 hk3 h6 k6 fr2 fr3 st3 hd3 HR HKR
      go_wp2_with fail
      go_region_held3 (fun W => W.cell? ⟨b, 2, none⟩ = some (.slice (some ⟨g, off, none⟩) fs1.length cap1)) (exact KB.out _ (by ((repeat (first | with_reducible exact Chg.refl _ _ | with_reducible refine Chg.drew ?_ | with_reducible refine Chg.setCell ?_ _ _ (fun _ => rfl))); done))) (fail)
      go_wp2_with fail
      refine (HNX.out _ _ _ _ H6.out).mono ?_
      rintro e w7 ⟨rfl, k7⟩
      go_wp2_with fail
      go_roundg (gk - 1)
      case measure => have := HGK.out; omega
      case rel => exact ⟨_, _, col3, j + 1, by have := HGK.out; omega, by rw [HT'.out], by rw [HT'.out]; exact H6.out.below k7, (HK3.out.drew.trans K6.out).trans (KStep.below K6.out.norm k7)⟩
end
end Go.Proofs.Ytjjgihaikcnjgaa
/-
  The document's cache: room.
-/
namespace Go.Proofs.Ytjjgihaikcnjgaa
open Go.RowKit Go.Maps
set_option linter.unusedSimpArgs false
set_option linter.unusedVariables false
set_option maxRecDepth 100000

theorem made_room {s : CS} (h : (s.frames.length : Int) < s.room) : s.made = (0, s) := by unfold CS.made; rw [if_pos h]
theorem made_full {s : CS} (h : ¬ (s.frames.length : Int) < s.room) (hn : ∀ i (hi : i < s.frames.length), (s.frames[i].pins == 0) = false) : s.made = (2, s) := by
  have ho : s.old = none := by
    unfold CS.old
    rw [List.find?_eq_none]
    intro f hf
    obtain ⟨i, hi, rfl⟩ := List.getElem_of_mem hf
    simp [hn i hi]
  unfold CS.made; rw [if_neg h, ho]
/-- the cache when the one that goes is written -/
def CS.wroteOld (s : CS) (f : Frm) : CS := if f.dirty then s.upTo f.order else s
theorem wroteOld_is {s : CS} (ok : s.Ok) (f : Frm) : (s.wroteOld f).Ok ∧ (s.wroteOld f).frames.map Frm.sector = s.frames.map Frm.sector ∧ (s.wroteOld f).gone = s.gone := by
  unfold CS.wroteOld
  split
  · exact ⟨(upTo_Ok ok f.order).1, upTo_sectors s f.order, (upTo_same s f.order).2.1⟩
  · exact ⟨ok, rfl, rfl⟩
theorem made_hit {s : CS} (ok : s.Ok) (h : ¬ (s.frames.length : Int) < s.room) {j : Nat} (hj : j < s.frames.length) (hn : ∀ i (hi : i < j), ((s.frames[i]'(by omega)).pins == 0) = false) (hz : (s.frames[j].pins == 0) = true) :
    s.made = (0, { s.wroteOld s.frames[j] with frames := (s.wroteOld s.frames[j]).frames.eraseIdx j, gone := wrap64 (s.gone + 1) }) := by
  have ho : s.old = some s.frames[j] := List.find?_eq_some_iff_getElem.2 ⟨hz, j, hj, rfl, fun i hi => by rw [hn i hi]; rfl⟩
  obtain ⟨k1, k2, k3⟩ := wroteOld_is ok s.frames[j]
  have hl : (s.wroteOld s.frames[j]).frames.length = s.frames.length := by simpa using congrArg List.length k2
  have hj2 : j < (s.wroteOld s.frames[j]).frames.length := by omega
  have hs : (s.wroteOld s.frames[j]).frames[j].sector = s.frames[j].sector := by
    have h1 : ((s.wroteOld s.frames[j]).frames.map Frm.sector)[j]? = (s.frames.map Frm.sector)[j]? := by rw [k2]
    rw [List.getElem?_map, List.getElem?_map, List.getElem?_eq_getElem hj2, List.getElem?_eq_getElem hj] at h1
    simpa using h1
  have hr := rest_erase k1 hj2
  rw [hs] at hr
  unfold CS.made
  rw [if_neg h, ho]
  simp only
  have e : (if s.frames[j].dirty = true then s.upTo s.frames[j].order else s) = s.wroteOld s.frames[j] := rfl
  rw [e]
  unfold CS.drop1
  rw [hr]
section
variable {w : World} {col : Nat → Nat} {c b db : Nat} {s : CS} {fv : Value} {fs : List (Frm × Value)}
/-- one goes -/
theorem RCacheIn.erased (h : RCacheIn w col c b s db fv fs) (hc : 1 < c) (hn : Norm w col) {j : Nat} (hj : j < fs.length) {w7 : World} (k : Below w.heap.size w w7) {v' : Value} (hl : SlAt w7 (fun i => w.heap.size ≤ i) 121 5 v' (fs.length - 1) (rcells (fs.eraseIdx j))) (g : Int) :
    ∃ col', RCacheIn ((w7.setCell ⟨b, 2, none⟩ v').setCell ⟨b, 6, none⟩ (.int .i64 g)) col' c b { s with frames := s.frames.eraseIdx j, gone := g } db v' (fs.eraseIdx j) ∧ KStep c col col' w ((w7.setCell ⟨b, 2, none⟩ v').setCell ⟨b, 6, none⟩ (.int .i64 g)) := by
  have hlen : (fs.eraseIdx j).length = fs.length - 1 := by rw [List.length_eraseIdx, if_pos hj]
  obtain ⟨col', h1, k1⟩ := h.relist hc hn (Chg.of_below k) (fun _ => False) (fs' := fs.eraseIdx j) (v' := v') (by rw [hlen]; exact hl.mono (fun i _ e => Or.inl ⟨e, not_false⟩)) (fun p hp => ((h.bytes p (List.mem_of_mem_eraseIdx hp)).below k).mono (fun i _ e => Or.inl e)) _ rfl
  obtain ⟨h2, k2⟩ := h1.count hc k1.norm 6 (.int .i64 g) { s with frames := s.frames.eraseIdx j, gone := g } rfl (by rw [map_erase, h.fr]) rfl
  exact ⟨col', h2, k1.trans k2⟩
def RTells (w : World) (col : Nat → Nat) (c b db : Nat) (r : Int × CS) (e : Ending) (w' : World) : Prop := e = .returned (.int .i64 r.1) ∧ RNow w col c b db r.2 w'
set_option maxHeartbeats 4000000 in
theorem rroom_any (h : RCacheIn w col c b s db fv fs) (hc : 1 < c) (hnm : Norm w col) (ok : s.Ok) (hp : s.d.pending.length ≤ 1073700000) :
    Calls Try.prog 79 #[ptr b] w fun e w' => RTells w col c b db s.made e w' := by
  obtain ⟨-, b1, b2, -, -, -, -⟩ := cells_r h.block
  obtain ⟨a, cap, rfl⟩ := h.shape
  have hlen : fs.length ≤ 4096 := by have := h.len; have := ok.len; have := ok.room1; omega
  have hbl := h.lt
  have HLE := Lib.hid h.len
  have H := Lib.hid h
  have HOK := Lib.hid ok
  have HNM := Lib.hid hnm
  have HP := Lib.hid hp
  have HB2 := Lib.hid b2
  have HBY := Lib.hid h.shapes
  have HFR : Hid (∀ j (hj : j < fs.length) (hj2 : j < s.frames.length), s.frames[j] = fs[j].1) := fun j hj hj2 => by simp [← h.fr]
  unfold RTells
  by_cases hlt : (s.frames.length : Int) < s.room
  · have hlt2 : (fs.length : Int) < s.room := by rw [h.len]; exact hlt
    rw [made_room hlt]
    clear h ok hnm hp hlt
    unfold ptr
    go_enter Try.func79, Try.ntmps79
    go_wp2_with fail
    go_quiet (fail)
    go_wp2_with fail
    go_ret
    exact ⟨rfl, col, (H.out.below (below_drewN (Below.refl _ _) _)).at, KStep.below HNM.out (below_drewN (Below.refl _ _) _)⟩
  · have hlt2 : ¬ (fs.length : Int) < s.room := by rw [h.len]; exact hlt
    have HHA : Hid (∀ j (hj : j < s.frames.length), (∀ i (hi : i < j), ((s.frames[i]'(by omega)).pins == 0) = false) → (s.frames[j].pins == 0) = true → s.made = (0, { s.wroteOld s.frames[j] with frames := (s.wroteOld s.frames[j]).frames.eraseIdx j, gone := wrap64 (s.gone + 1) })) := fun j hj h1 h2 => made_hit ok hlt hj h1 h2
    have HFU : Hid ((∀ i (hi : i < s.frames.length), (s.frames[i].pins == 0) = false) → s.made = (2, s)) := fun h1 => made_full hlt h1
    clear h ok hnm hp hlt
    unfold ptr
    go_enter Try.func79, Try.ntmps79
    go_wp2_with fail
    go_quiet (fail)
    go_wp2_with fail
    go_loopw [3, 22] (fun av i wr => ∃ j : Nat, j ≤ fs.length ∧ i = .int .i64 j ∧ av = .int .i64 (-1) ∧ Hid (∀ i (hi : i < j) (hi2 : i < s.frames.length), (s.frames[i].pins == 0) = false) ∧ Below w.heap.size w wr) (fun _ i _ => fs.length - (intOf i).toNat)
    case atStart => exact ⟨0, Nat.zero_le _, rfl, rfl, fun i hi => by omega, below_drewN (Below.refl _ _) _⟩
    case round =>
      obtain ⟨j, hj, rfl, rfl, hno, hb⟩ := hrel
      clear hlt2 b1 b2
      have j0 : (0 : Int) ≤ (j : Int) := by omega
      have j9 : (j : Int) ≤ 4096 := by omega
      by_cases hjn : j < fs.length
      · have j1 : (j : Int) < (fs.length : Int) := by omega
        obtain ⟨g, off, rfl, hg, q0, q1, q2, q3, q4⟩ := rframe_cells rfl (H.out.list.rd.below hb) hjn
        obtain ⟨av, cv, ev⟩ := HBY.out _ (List.getElem_mem hjn)
        have hjs : j < s.frames.length := by rw [← HLE.out]; exact hjn
        have hjf := HFR.out j hjn hjs
        have HB := Lib.hid hb
        have HNEXT : Hid ((fs[j].1.pins == 0) = false → ∀ i (hi : i < j + 1) (hi2 : i < s.frames.length), (s.frames[i].pins == 0) = false) := fun hp i hi hi2 => by
          by_cases e : i = j
          · subst e; rw [hjf]; exact hp
          · exact hno.out i (by omega) hi2
        have HHIT : Hid ((fs[j].1.pins == 0) = true → s.made = (0, { s.wroteOld fs[j].1 with frames := (s.wroteOld fs[j].1).frames.eraseIdx j, gone := wrap64 (s.gone + 1) })) := fun hz => by
          have := HHA.out j hjs (fun i hi => hno.out i hi (by omega)) (by rw [hjf]; exact hz)
          rw [hjf] at this; exact this
        clear hb hno hjf
        generalize fs[j] = fj at *
        obtain ⟨⟨fsec, fp, fd, fo, fb⟩, fw⟩ := fj
        simp only at q0 q1 q2 q3 q4 ev
        subst ev
        cases hz : (fp == 0) with
        | false =>
          have HN := Lib.hid (HNEXT.out hz)
          clear HHIT HNEXT
          go_wp2_with fail
          go_roundw
          case rel => exact ⟨j + 1, by omega, by go_num, rfl, HN.out, HB.out.alloc HB.out.size _⟩
          case measure => simp [intOf]; omega
        | true =>
          have HM := Lib.hid (HHIT.out hz)
          clear HHIT HNEXT
          have hbw : b < wr.heap.size := Nat.lt_of_lt_of_le hbl HB.out.size
          have b2w := (HB.out.cell (p := ⟨b, 2, none⟩) hbl).trans HB2.out
          have HBA : Hid (∀ o, Below w.heap.size w (wr.alloc o)) := fun o => HB.out.alloc HB.out.size o
          have hjI : ¬ (j : Int) < 0 := by omega
          have hjD : decide ((j : Int) < 0) = false := by simp
          cases fd with
          | false =>
            have e : s.wroteOld ⟨fsec, fp, false, fo, fb⟩ = s := rfl
            rw [e] at HM
            clear e
            go_wp2_with fail
            have hA := HBA.out (.cells #[.int .i64 fsec, .int .i64 fp, .bool false, .int .u64 fo, .slice av fb.length cv] 121)
            generalize wr.alloc (.cells #[.int .i64 fsec, .int .i64 fp, .bool false, .int .u64 fo, .slice av fb.length cv] 121) = w1 at *
            have h1 := H.out.below hA
            have kq1 := KStep.below (c := c) HNM.out hA
            refine (rwithout_any h1 HOK.out hjn).mono ?_
            rintro e w2 ⟨⟨v2, rfl, hs2⟩, k2⟩
            obtain ⟨a2, cap2, rfl⟩ := hs2.shape
            obtain ⟨col', h9, k9⟩ := h1.erased hc kq1.norm hjn k2 (hs2.mono (fun k _ e => e)) (wrap64 (s.gone + 1))
            have H9 := Lib.hid h9
            have K9 := Lib.hid (kq1.trans k9)
            have h2 := h1.below k2
            obtain ⟨-, -, c2, -, -, -, c6⟩ := cells_r h2.block
            have hf2 := free_of_block h2.block 2
            have hf6 := free_of_block h2.block 6
            have hb2 := h2.lt
            clear hA h1 kq1 hs2 k2 h9 k9 h2 q0 q1 q2 q3 q4 b2w hg hbw
            go_wp2_with fail
            go_ret
            rw [HM.out]
            exact ⟨rfl, col', H9.out.at, K9.out⟩
          | true =>
            have e : s.wroteOld ⟨fsec, fp, true, fo, fb⟩ = s.upTo fo := rfl
            rw [e] at HM
            clear e
            go_wp2_with fail
            have hA := HBA.out (.cells #[.int .i64 fsec, .int .i64 fp, .bool true, .int .u64 fo, .slice av fb.length cv] 121)
            generalize wr.alloc (.cells #[.int .i64 fsec, .int .i64 fp, .bool true, .int .u64 fo, .slice av fb.length cv] 121) = w1 at *
            have h1 := H.out.below hA
            have kq1 := KStep.below (c := c) HNM.out hA
            refine (rupto_any h1 hc kq1.norm HOK.out HP.out fo).mono ?_
            rintro e w2 ⟨rfl, col2, ⟨fv2, fs2, h2⟩, k2⟩
            have ok2 := (upTo_Ok HOK.out fo).1
            have hl2 : fs2.length = fs.length := by rw [h2.len, upTo_len, HLE.out]
            have hj2 : j < fs2.length := by omega
            have hg2 := (upTo_same s fo).2.1
            have HOK2 := Lib.hid ok2
            have H2 := Lib.hid h2
            have HG2 := Lib.hid hg2
            have Q2 := Lib.hid (kq1.trans k2)
            clear hA h1 kq1 h2 k2 ok2 hl2 hg2 q0 q2 q3 q4 b2w hg hbw
            go_wp2_with fail
            refine (rwithout_any H2.out HOK2.out hj2).mono ?_
            rintro e w3 ⟨⟨v3, rfl, hs3⟩, k3⟩
            obtain ⟨a3, cap3, rfl⟩ := hs3.shape
            obtain ⟨col', h9, k9⟩ := H2.out.erased hc Q2.out.norm hj2 k3 (hs3.mono (fun k _ e => e)) (wrap64 (s.gone + 1))
            have H9 := Lib.hid h9
            have K9 := Lib.hid (Q2.out.trans k9)
            have h3 := H2.out.below k3
            obtain ⟨-, -, c2, -, -, -, c6⟩ := cells_r h3.block
            rw [HG2.out] at c6
            have hf2 := free_of_block h3.block 2
            have hf6 := free_of_block h3.block 6
            have hb2 := h3.lt
            clear hs3 k3 h9 k9 h3
            go_wp2_with fail
            go_ret
            rw [HM.out]
            exact ⟨rfl, col', H9.out.at, K9.out⟩
      · have HB := Lib.hid hb
        obtain rfl : j = fs.length := by omega
        have HM := Lib.hid (HFU.out (fun i hi => hno.out i (by rw [HLE.out]; exact hi) hi))
        clear hb hno
        go_wp2_with fail
        go_ret
        rw [HM.out]
        exact ⟨rfl, col, (H.out.below HB.out).at, KStep.below HNM.out HB.out⟩
end
end Go.Proofs.Ytjjgihaikcnjgaa
