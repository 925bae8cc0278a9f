/-
  The document's disk: power, New, Load; and what Load of package disk refuses.
-/
import Derived.Test.YtlkebppmdbgdmaaLaw
namespace Go.Proofs.Ytlkebppmdbgdmaa
open Go.RowKit
set_option linter.unusedSimpArgs false
set_option linter.unusedVariables false

theorem power_any (w : World) (n : Int) : Calls Try.prog 41 #[.int .i64 n, .int .i64 512, .int .i64 4096] w fun e w' => e = .returned (.bool (power2 n)) ∧ w = w' := by
  go_enter Try.func41, Try.ntmps41
  go_wp2
  go_loop [7] (fun i => (i = .int .i64 512) ∨ (i = .int .i64 1024 ∧ Hid (n ≠ 512)) ∨ (i = .int .i64 2048 ∧ Hid (n ≠ 512 ∧ n ≠ 1024)) ∨ (i = .int .i64 4096 ∧ Hid (n ≠ 512 ∧ n ≠ 1024 ∧ n ≠ 2048)) ∨ (i = .int .i64 8192 ∧ Hid (n ≠ 512 ∧ n ≠ 1024 ∧ n ≠ 2048 ∧ n ≠ 4096))) (fun i => 8192 - (intOf i).toNat)
  case atStart => exact Or.inl rfl
  case round =>
    rcases hrel with rfl | ⟨rfl, hne⟩ | ⟨rfl, hne⟩ | ⟨rfl, hne⟩ | ⟨rfl, hne⟩
    · by_cases e : n = 512
      · have e' : (n == 512) = true := by simp [e]
        have he : Hid (power2 n = true) := by show _ = _; simp [power2, e]
        clear e
        go_wp2
        go_ret
        exact ⟨by rw [he.out]; rfl, rfl⟩
      · have e' : (n == 512) = false := by simp [e]
        have hne' : Hid (n ≠ 512) := e
        clear e
        go_wp2
        go_round
        case rel => exact Or.inr (Or.inl ⟨rfl, hne'⟩)
        case measure => simp [intOf]
    · by_cases e : n = 1024
      · have e' : (n == 1024) = true := by simp [e]
        have he : Hid (power2 n = true) := by show _ = _; simp [power2, e]
        clear e
        go_wp2
        go_ret
        exact ⟨by rw [he.out]; rfl, rfl⟩
      · have e' : (n == 1024) = false := by simp [e]
        have hne' : Hid (n ≠ 512 ∧ n ≠ 1024) := by have := hne.out; show n ≠ 512 ∧ n ≠ 1024; omega
        clear e
        go_wp2
        go_round
        case rel => exact Or.inr (Or.inr (Or.inl ⟨rfl, hne'⟩))
        case measure => simp [intOf]
    · by_cases e : n = 2048
      · have e' : (n == 2048) = true := by simp [e]
        have he : Hid (power2 n = true) := by show _ = _; simp [power2, e]
        clear e
        go_wp2
        go_ret
        exact ⟨by rw [he.out]; rfl, rfl⟩
      · have e' : (n == 2048) = false := by simp [e]
        have hne' : Hid (n ≠ 512 ∧ n ≠ 1024 ∧ n ≠ 2048) := by have := hne.out; show n ≠ 512 ∧ n ≠ 1024 ∧ n ≠ 2048; omega
        clear e
        go_wp2
        go_round
        case rel => exact Or.inr (Or.inr (Or.inr (Or.inl ⟨rfl, hne'⟩)))
        case measure => simp [intOf]
    · by_cases e : n = 4096
      · have e' : (n == 4096) = true := by simp [e]
        have he : Hid (power2 n = true) := by show _ = _; simp [power2, e]
        clear e
        go_wp2
        go_ret
        exact ⟨by rw [he.out]; rfl, rfl⟩
      · have e' : (n == 4096) = false := by simp [e]
        have hne' : Hid (n ≠ 512 ∧ n ≠ 1024 ∧ n ≠ 2048 ∧ n ≠ 4096) := by have := hne.out; show n ≠ 512 ∧ n ≠ 1024 ∧ n ≠ 2048 ∧ n ≠ 4096; omega
        clear e
        go_wp2
        go_round
        case rel => exact Or.inr (Or.inr (Or.inr (Or.inr ⟨rfl, hne'⟩)))
        case measure => simp [intOf]
    · have h := hne.out
      have he : Hid (power2 n = false) := by show _ = _; simp [power2, h]
      clear h
      go_wp2
      go_ret
      exact ⟨by rw [he.out]; rfl, rfl⟩
theorem fits_split (size count : Int) : fitsD size count = (power2 size && (decide (1 ≤ count) && decide (count ≤ 4096))) := by rw [fitsD, pow2B_eq]
theorem fits_power {size count : Int} (h : fitsD size count = true) : power2 size = true ∧ 1 ≤ count ∧ count ≤ 4096 := by
  rw [fits_split] at h; simp at h; exact h
theorem refnew_no (w : World) (size count : Int) (h : fitsD size count = false) :
    Calls Try.prog 21 #[.int .i64 size, .int .i64 count] w fun e w' => e = .returned (.tuple #[.pointer none, .int .i64 1]) ∧ w = w' := by
  rw [fits_split] at h
  cases hp : power2 size with
  | false =>
    have Hp := Lib.hid hp; clear hp h
    go_enter Try.func21, Try.ntmps21
    go_wp2_with (go_at_call 41; refine (power_any _ _).mono ?_; rintro e w' ⟨rfl, rfl⟩; rw [Hp.out])
    go_ret2
    exact ⟨rfl, rfl⟩
  | true =>
    rw [hp] at h
    have Hp := Lib.hid hp; clear hp
    by_cases h1 : count < 1
    · clear h
      go_enter Try.func21, Try.ntmps21
      go_wp2_with (go_at_call 41; refine (power_any _ _).mono ?_; rintro e w' ⟨rfl, rfl⟩; rw [Hp.out])
      go_ret2
      exact ⟨rfl, rfl⟩
    · have h2 : count > 4096 := by
        simp at h; omega
      clear h
      go_enter Try.func21, Try.ntmps21
      go_wp2_with (go_at_call 41; refine (power_any _ _).mono ?_; rintro e w' ⟨rfl, rfl⟩; rw [Hp.out])
      go_ret2
      exact ⟨rfl, rfl⟩
theorem refnew_in (w : World) (size count : Int) (h : fitsD size count = true) (col : Nat → Nat) (c : Nat) :
    Calls Try.prog 21 #[.int .i64 size, .int .i64 count] w fun e w' => e = .returned (.tuple #[.pointer (some ⟨w.heap.size + 1, 0, none⟩), .int .i64 0]) ∧
      DiskIn w' 49 (col2 col w.heap.size (c + 1) c) c (w.heap.size + 1) (DS.new size count) (some ⟨w.heap.size, 0, none⟩) (size * count).toNat none 0 0 [] ∧ Below w.heap.size w w' ∧ w'.heap.size = w.heap.size + 2 := by
  obtain ⟨a0, a1, a2, a3⟩ := fits_bounds h
  obtain ⟨m0, m1⟩ := mul_bounds (a := size) (b := count) (by omega) a1 (by omega) a3
  obtain ⟨i0, hi, hz0, hz1, hz2⟩ := info_parts info5
  have hmk : ∀ u : World, (Instr.makeSlice 30 (.int .i64 (size * count)) (.int .i64 (size * count))).run Try.prog u =
      .ok (.slice (some ⟨u.heap.size, 0, none⟩) (size * count).toNat (size * count).toNat) (u.alloc (.cells (bcells (zeros (size * count).toNat)).toArray 5)) := fun u => by
    have h := run_make (P := Try.prog) u 30 5 i0 (.int .u8 0) Try.underlying30 hi hz0 .i64 .i64 (size * count) (size * count) m0 (Int.le_refl _) (by rw [hz2]; omega) (by omega)
    rw [hz1, Nat.mul_one] at h
    rw [← madeCells_zeros]
    exact h
  have hmul : IntKind.i64.wrap (size * count) = size * count := IntWalk.i64_in _ (by omega)
  have Hp := Lib.hid (fits_power h).1
  clear h
  have H2 := Lib.hid (show (DS.new size count).platter.length = (size * count).toNat by simp [DS.new, zeros])
  go_enter Try.func21, Try.ntmps21
  go_wp2_with (go_at_call 41; refine (power_any _ _).mono ?_; rintro e w' ⟨rfl, rfl⟩; rw [Hp.out])
  go_ret2
  have hlen : (zeros (size * count).toNat).length = (size * count).toNat := by simp [zeros]
  refine ⟨rfl, ⟨?_, ?_, ?_, SlAt.nil _ _ _ _ _, rfl, rfl⟩, ((Below.refl _ _).alloc (Nat.le_refl _) _).alloc (by simp) _, by simp⟩
  · simp only [DS.new, dcells, hlen]
    rw [show w.heap.size + 1 = (w.alloc (.cells (bcells (zeros (size * count).toNat)).toArray 5)).heap.size by simp]
    exact block_new _ _
  · exact col2_b _ _ _ _
  · simp only [DS.new, hlen]
    refine ⟨by simp [zeros], Or.inr ⟨w.heap.size, 0, _, _, rfl, col2_a _ _ _ _, block_old _ (block_new _ _), Nat.le_refl _, by unfold maxLen; omega, by simp [zeros], ?_⟩⟩
    simp [zeros, bcells]

theorem refnew_ok (w : World) (size count : Int) (h : fitsD size count = true) (col : Nat → Nat) (c : Nat) :
    Calls Try.prog 21 #[.int .i64 size, .int .i64 count] w fun e w' => NewDisk w 49 col c (DS.new size count) e w' ∧ Below w.heap.size w w' := by
  refine (refnew_in w size count h col c).mono ?_
  rintro e w' ⟨rfl, hd, hb, hz⟩
  exact ⟨⟨_, _, rfl, by omega, hd.at, col2_ext _ _ _ _, col2_norm _ _ _ () hz⟩, hb⟩
set_option maxHeartbeats 1000000 in
theorem refload_ok (w : World) (size : Int) (own : Nat → Prop) (v : Value) (l : List Int) (hv : BytesAt w own v l) (hok : loadOk size l.length = true) (col : Nat → Nat) (c : Nat) (hc : 1 < c) :
    Calls Try.prog 25 #[.int .i64 size, v] w fun e w' => NewDisk w 49 col c (DS.load size l) e w' ∧ Below w.heap.size w w' := by
  obtain ⟨a, cap, rfl, hmax⟩ := RdAt.shape hv
  obtain ⟨i0, hi, hz0, hz1, hz2⟩ := info_parts info5
  unfold maxLen at hmax
  simp only [loadOk, Bool.and_eq_true, beq_iff_eq] at hok
  obtain ⟨h1, h2, h3⟩ := hok
  obtain ⟨b0, b1, _, _⟩ := fits_bounds h1
  obtain ⟨_, _, b2, b3⟩ := fits_bounds h3
  have H1 := Lib.hid h1; have H3 := Lib.hid h3
  have Hp := Lib.hid (fits_power h1).1
  have h2' : ((l.length : Int) % size != 0) = false := by simp [h2]
  have hmul : Hid (size * ((l.length : Int) / size) = l.length) := by
    have := Int.mul_ediv_add_emod (l.length : Int) size
    show _ = _
    rw [h2] at this; omega
  have hn0 : (0 : Int) ≤ (l.length : Int) := by omega
  clear h1 h2 h3
  go_enter Try.func25, Try.ntmps25
  go_wp2_with (go_at_call 41; refine (power_any _ _).mono ?_; rintro e w' ⟨rfl, rfl⟩; rw [Hp.out])
  refine (refnew_in _ _ _ H3.out col c).mono ?_
  rintro e w1 ⟨rfl, hd, hb1, hzz⟩
  have Hzz := Lib.hid hzz; clear hzz
  have hpl : (DS.new size ((l.length : Int) / size)).platter.length = l.length := by
    simp only [DS.new, zeros, List.length_replicate]; rw [hmul.out]; rfl
  have hpos : 0 < l.length := by
    rcases Nat.eq_zero_or_pos l.length with h | h
    · rw [h] at b2; simp at b2
    · exact h
  obtain ⟨g, off, cur, eg, hcg, hhg, hl1, hl2, hl3, hl4⟩ := hd.placed (by omega)
  injection eg with eg
  injection eg with eg eo
  subst eg eo
  have d2 := hd.platter
  rw [hpl] at d2 hl1 hl4
  have Hpl := Lib.hid hpl; clear hpl
  go_wp2_with (refine wpList_copy_sl rfl (.tmp 33) (.tmp 34) 30 30 rfl 5 i0 Try.underlying30 hi hz1 own _ l.length (bcells l) rfl (hv.below hb1) (bcells_one _) _ w.heap.size 0 l.length _ cur 5 rfl ?_ ?_; exact fun _ => ⟨rfl, hhg, (by rw [show Nat.min l.length l.length = l.length from Nat.min_self _]; omega)⟩; rintro w2 c2 _ k2)
  go_ret2
  have hmin : Nat.min l.length l.length = l.length := Nat.min_self _
  rw [hmin, List.take_of_length_le (by simp)] at c2
  have h2 := hd.copied hc hhg hcg hl3 (by rw [Hpl.out]; exact hl1) hl2 (by rw [Hpl.out]; exact hl4) 0 l (by rw [Hpl.out]; omega) k2 (c2 hpos)
  have e : splice (DS.new size ((l.length : Int) / size)).platter 0 l = l := by
    simp only [splice, List.take_zero, List.nil_append, Nat.zero_add]
    rw [List.drop_of_length_le (by rw [Hpl.out]; exact Nat.le_refl _), List.append_nil]
  rw [e] at h2
  exact ⟨⟨_, _, rfl, by omega, h2.at, col2_ext _ _ _ _, (col2_norm (w' := w1) _ _ _ () Hzz.out).grow k2.size⟩, hb1.trans (k2.below hb1.size (fun i hi e => by omega))⟩

set_option maxHeartbeats 1000000 in
theorem load_no (w : World) (size : Int) (own : Nat → Prop) (v : Value) (l : List Int) (hv : BytesAt w own v l) (hok : loadOk size l.length = false) :
    Calls Try.prog 24 #[.int .i64 size, v] w fun e w' => e = .returned (.tuple #[.pointer none, .int .i64 1]) ∧ w = w' := by
  obtain ⟨a, cap, rfl, hmax⟩ := RdAt.shape hv
  unfold maxLen at hmax
  simp only [loadOk] at hok
  cases h1 : fitsD size 1 with
  | false =>
    have H1 := Lib.hid h1; clear h1 hok
    go_enter Try.func24, Try.ntmps24
    go_wp2_with (go_at_call 34; refine (fits_any _ _ _).mono ?_; rintro e w' ⟨rfl, rfl⟩; rw [H1.out])
    go_ret2
    exact ⟨rfl, rfl⟩
  | true =>
    obtain ⟨b0, b1, _, _⟩ := fits_bounds h1
    rw [h1] at hok
    have H1 := Lib.hid h1; clear h1
    by_cases h2 : (l.length : Int) % size = 0
    · have h2' : ((l.length : Int) % size != 0) = false := by simp [h2]
      have h3 : fitsD size ((l.length : Int) / size) = false := by
        cases h : fitsD size ((l.length : Int) / size) with
        | false => rfl
        | true => simp [h2, h] at hok
      have H3 := Lib.hid h3
      have hn0 : (0 : Int) ≤ (l.length : Int) := by omega
      have q0 : 0 ≤ (l.length : Int) / size := Int.ediv_nonneg hn0 (by omega)
      have q1 : (l.length : Int) / size ≤ l.length := Int.ediv_le_self _ hn0
      clear h2 h3 hok
      go_enter Try.func24, Try.ntmps24
      go_wp2_with (go_at_call 34; refine (fits_any _ _ _).mono ?_; rintro e w' ⟨rfl, rfl⟩; (first | rw [H1.out] | rw [H3.out]))
      go_ret2
      exact ⟨rfl, rfl⟩
    · have h2' : ((l.length : Int) % size != 0) = true := by simp [h2]
      have hn0 : (0 : Int) ≤ (l.length : Int) := by omega
      clear h2 hok
      go_enter Try.func24, Try.ntmps24
      go_wp2_with (go_at_call 34; refine (fits_any _ _ _).mono ?_; rintro e w' ⟨rfl, rfl⟩; rw [H1.out])
      go_ret2
      exact ⟨rfl, rfl⟩
set_option maxHeartbeats 1000000 in
theorem refload_no (w : World) (size : Int) (own : Nat → Prop) (v : Value) (l : List Int) (hv : BytesAt w own v l) (hok : loadOk size l.length = false) :
    Calls Try.prog 25 #[.int .i64 size, v] w fun e w' => e = .returned (.tuple #[.pointer none, .int .i64 1]) ∧ w = w' := by
  obtain ⟨a, cap, rfl, hmax⟩ := RdAt.shape hv
  unfold maxLen at hmax
  simp only [loadOk] at hok
  cases h1 : fitsD size 1 with
  | false =>
    have hp : power2 size = false := by rw [fits_split] at h1; simpa using h1
    have H1 := Lib.hid hp; clear h1 hok hp
    go_enter Try.func25, Try.ntmps25
    go_wp2_with (go_at_call 41; refine (power_any _ _).mono ?_; rintro e w' ⟨rfl, rfl⟩; rw [H1.out])
    go_ret2
    exact ⟨rfl, rfl⟩
  | true =>
    obtain ⟨b0, b1, _, _⟩ := fits_bounds h1
    rw [h1] at hok
    have H1 := Lib.hid (fits_power h1).1; clear h1
    by_cases h2 : (l.length : Int) % size = 0
    · have h2' : ((l.length : Int) % size != 0) = false := by simp [h2]
      have h3 : fitsD size ((l.length : Int) / size) = false := by
        cases h : fitsD size ((l.length : Int) / size) with
        | false => rfl
        | true => simp [h2, h] at hok
      have H3 := Lib.hid h3
      have hn0 : (0 : Int) ≤ (l.length : Int) := by omega
      have q0 : 0 ≤ (l.length : Int) / size := Int.ediv_nonneg hn0 (by omega)
      have q1 : (l.length : Int) / size ≤ l.length := Int.ediv_le_self _ hn0
      clear h2 h3 hok
      go_enter Try.func25, Try.ntmps25
      go_wp2_with (go_at_call 41; refine (power_any _ _).mono ?_; rintro e w' ⟨rfl, rfl⟩; rw [H1.out])
      refine (refnew_no _ _ _ H3.out).mono ?_
      rintro e w1 ⟨rfl, rfl⟩
      go_wp2
      go_ret2
      exact ⟨rfl, rfl⟩
    · have h2' : ((l.length : Int) % size != 0) = true := by simp [h2]
      have hn0 : (0 : Int) ≤ (l.length : Int) := by omega
      clear h2 hok
      go_enter Try.func25, Try.ntmps25
      go_wp2_with (go_at_call 41; refine (power_any _ _).mono ?_; rintro e w' ⟨rfl, rfl⟩; rw [H1.out])
      go_ret2
      exact ⟨rfl, rfl⟩
theorem load_Ok {size : Int} {l : List Int} (h : loadOk size l.length = true) : (DS.load size l).Ok := by
  simp only [loadOk, Bool.and_eq_true, beq_iff_eq] at h
  obtain ⟨h1, h2, h3⟩ := h
  obtain ⟨a0, a1, a2, a3⟩ := fits_bounds h3
  have := Int.mul_ediv_add_emod (l.length : Int) size
  exact ⟨a0, a1, a2, a3, by simp only [DS.load, DS.new]; omega, by simp [DS.load, DS.new], by simp [DS.load, DS.new]⟩
end Go.Proofs.Ytlkebppmdbgdmaa
