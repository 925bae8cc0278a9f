/-
  The walk of 'lives': what must come of every program.
-/
import Derived.Test.YtlkebppmdbgdmaaWalks5
import Derived.Test.YtlkebppmdbgdmaaRead
namespace Go.Proofs.Ytlkebppmdbgdmaa
open Go.RowKit
set_option linter.unusedSimpArgs false
set_option linter.unusedVariables false

theorem Filled.bytes {w' : World} {l : List Int} {g : Nat} (h : w'.heap[g]? = some (.cells (bcells l).toArray 5 (0, 0))) (hl : l.length ≤ maxLen) : BytesAt w' (fun k => k = g) (.slice (some ⟨g, 0, none⟩) l.length l.length) l := by
  refine ⟨by simp, _, _, rfl, Nat.le_refl _, hl, fun _ => ⟨g, 0, rfl, rfl, lt_of_block h, ?_⟩⟩
  intro j u hj
  rw [cell_of_block h]
  simpa using hj
theorem filled_len (n c : Int) (h : 0 ≤ n) : ((filled n c).length : Int) = n := by simp only [filled, filledTo_len]; omega
theorem new_Ok {size count : Int} (h : fitsD size count = true) : (DS.new size count).Ok := by
  obtain ⟨a0, a1, a2, a3⟩ := fits_bounds h
  obtain ⟨m0, m1⟩ := mul_bounds (a := size) (b := count) (by omega) a1 (by omega) a3
  exact ⟨a0, a1, a2, a3, by simp [DS.new, zeros]; omega, by simp [DS.new], by simp [DS.new]⟩
theorem write_Ok {s : DS} (h : s.Ok) {n : Int} {l : List Int} (h0 : 0 ≤ n) (h1 : n < s.count) (h2 : (l.length : Int) = s.size) : (s.write n l).Ok := by
  unfold DS.write
  split
  · refine ⟨h.size0, h.size1, h.count0, h.count1, h.plen, ?_, ?_⟩
    · intro p hp
      rcases List.mem_append.1 hp with hp | hp
      · exact h.pend p hp
      · simp at hp; subst hp; exact ⟨h0, h1, h2⟩
    · have := h.left
      simp only [DS.tick]; split <;> simp_all <;> omega
  · exact h

theorem read_Ok {s : DS} (h : s.Ok) : s.read.Ok := ⟨h.size0, h.size1, h.count0, h.count1, h.plen, h.pend, h.left⟩
theorem flush_Ok {s : DS} (h : s.Ok) : s.flush.Ok := by
  unfold DS.flush
  split
  · refine ⟨h.size0, h.size1, h.count0, h.count1, ?_, by simp, ?_⟩
    · simp only; rw [foldl_len h _ (fun _ hp => hp) _ rfl]; exact h.plen
    · have := h.left
      simp only [DS.tick]; split <;> simp_all <;> omega
  · exact h
theorem crash_Ok {s : DS} (h : s.Ok) {keep : List Int} (hk : KeepOk s.pending.length keep) : (s.crash keep).Ok := by
  refine ⟨h.size0, h.size1, h.count0, h.count1, ?_, by simp [DS.crash], by simp [DS.crash]⟩
  simp only [DS.crash]
  rw [foldl_len h _ (kept_mem hk) _ rfl]; exact h.plen
theorem stop_Ok {s : DS} (h : s.Ok) {n : Int} (hn : n ≤ 9223372036854775807) : (s.stop n).Ok := by
  refine ⟨h.size0, h.size1, h.count0, h.count1, h.plen, h.pend, ?_⟩
  simp only [DS.stop]; split <;> omega

theorem chg_grow {B : Nat} {own : Nat → Prop} {a b c : World} (h : Below B a b) (hB : B ≤ a.heap.size) (k : Chg own b c) (ho : ∀ i, i < B → ¬ own i) : Below B a c := h.trans (k.below (Nat.le_trans hB h.size) ho)
/-- blocks that were there ahead of a disk have none of its colours -/
def Clear (B : Nat) (col : Nat → Nat) (c : Nat) : Prop := ∀ i, i < B → ¬ inC col c i
theorem Clear.ext {B n : Nat} {col col' : Nat → Nat} {c : Nat} (h : Clear B col c) (x : Ext n col col') (hn : B ≤ n) : Clear B col' c := fun i hi e => h i hi (by unfold inC at *; rw [x i (by omega)] at e; exact e)
theorem clear_zero (B c : Nat) (hc : 0 < c) : Clear B (fun _ => 0) c := fun i _ e => by simp only [inC] at e; omega
theorem Clear.norm {w : World} {col : Nat → Nat} {B c : Nat} (h : Norm w col) (hc : 0 < c) (z : Clear w.heap.size col c) : Clear B col c := fun i _ e => by
  by_cases hi : i < w.heap.size
  · exact z i hi e
  · have := h i (by omega); unfold inC at e; omega

set_option maxHeartbeats 1000000 in
theorem lives_any (w : World) : Calls Try.prog 11 #[] w fun e w' => e = .returned (.bool true) ∧ Below w.heap.size w w' := by
  have hf : fitsD 512 2 = true := by decide +kernel
  have hfl := filled_len 512 5 (by omega)
  have Hfl := Lib.hid hfl; clear hfl
  have ok0 := new_Ok hf
  go_enter Try.func11, Try.ntmps11
  go_wp2_with fail
  refine (new_ok _ _ _ hf (fun _ => 0) 10).mono ?_
  rintro e w1 ⟨⟨b, col1, rfl, hb, h1, x1, m1⟩, k1⟩
  go_wp2_with fail
  refine (filled_any _ _ _ (by omega) (by omega)).mono ?_
  rintro e w2 ⟨⟨g, rfl, hg, hblk⟩, k2⟩
  have v2 := Filled.bytes hblk (by unfold maxLen; have := Hfl.out; omega)
  have m2 := m1.grow k2.size
  have h2 := h1.below k2
  go_wp2_with fail
  have okw := write_Ok ok0 (n := 1) (l := filled 512 5) (by omega) (by simp [DS.new]) Hfl.out
  refine (write_ok _ _ _ _ _ _ _ _ _ h2 (by omega) (by simp [DS.new]) ⟨by simp [DS.new], by simp [DS.new]⟩ v2 (by omega) (by simp [DS.new]) Hfl.out (by simp [DS.new]) (by simp [DS.new]) (fun k hk e => by subst hk; unfold inC at e; have := m1 k hg; omega) m2).mono ?_
  rintro e w3 ⟨rfl, ⟨col3, h3, x3, m3⟩, k3⟩
  have e3 : (DS.new 512 2).write 1 (filled 512 5) = { DS.new 512 2 with writes := wrap64 (0 + 1), pending := [(1, filled 512 5)] } := rfl
  rw [e3] at h3 okw
  have n3 := Lib.hid (show ({ DS.new 512 2 with writes := wrap64 (0 + 1), pending := [(1, filled 512 5)] } : DS).pending.length = 1 from rfl)
  have z3 : 0 < ({ DS.new 512 2 with writes := wrap64 (0 + 1), pending := [(1, filled 512 5)] } : DS).size := by simp [DS.new]
  have se3 : ({ DS.new 512 2 with writes := wrap64 (0 + 1), pending := [(1, filled 512 5)] } : DS).sectors = [1] := rfl
  have sc3 : Hid (({ DS.new 512 2 with writes := wrap64 (0 + 1), pending := [(1, filled 512 5)] } : DS).sector 1 = filled 512 5) := (by show _ = _; simp [DS.sector, pickP])
  have ct3 : (1 : Int) < ({ DS.new 512 2 with writes := wrap64 (0 + 1), pending := [(1, filled 512 5)] } : DS).count := by simp [DS.new]
  have off3 : ({ DS.new 512 2 with writes := wrap64 (0 + 1), pending := [(1, filled 512 5)] } : DS).stops = false := rfl
  generalize ({ DS.new 512 2 with writes := wrap64 (0 + 1), pending := [(1, filled 512 5)] } : DS) = S at *
  clear e3
  go_wp2_with fail
  refine (pending_any _ _ _ _ _ h3 z3 (by have := n3.out; omega)).mono ?_
  rintro e w4 ⟨⟨a4, cap4, rfl, hs4⟩, k4⟩
  rw [se3]
  have h4 := h3.below k4
  have m4 := m3.grow k4.size
  go_wp2_with fail
  refine (read_ok _ _ _ _ _ 1 h4 (by omega) okw (by have := n3.out; omega) (by omega) ct3).mono ?_
  rw [sc3.out]
  rintro e w5 ⟨a5, cap5, rfl, hs5, h5, k5⟩
  go_wp2_with fail
  refine (filled_any _ _ _ (by omega) (by omega)).mono ?_
  rintro e w6 ⟨⟨g6, rfl, hg6, hblk6⟩, k6⟩
  have v6 := Filled.bytes hblk6 (by unfold maxLen; have := Hfl.out; omega)
  have r6 := hs5.rd.below k6
  have h6 := h5.below k6
  have beq : Hid ((filled 512 5 == filled 512 5) = true) := by show _ = _; simp
  go_wp2_with fail
  refine (sameBytes_any _ _ _ _ _ _ _ r6 v6).mono ?_
  rw [beq.out]
  rintro e w7 ⟨rfl, k7⟩
  have h7 := h6.below k7
  have okr := read_Ok okw
  have nr : Hid (S.read.pending.length = 1) := n3
  have al : Hid (S.read.alive = true) := by show _ = _; simp only [DS.alive]; show (!S.stops || _) = true; rw [off3]; rfl
  have fl : Hid (S.read.flush.sectors = []) := by show _ = _; simp only [DS.flush]; rw [if_pos al.out]; rfl
  have fp : Hid (S.read.flush.pending = []) := by show _ = _; simp only [DS.flush]; rw [if_pos al.out]
  go_wp2_with fail
  refine (flush_any _ _ _ _ _ h7 (by omega) okr (by have := nr.out; omega)).mono ?_
  rw [nr.out]
  rintro e w8 ⟨rfl, h8, k8⟩
  go_wp2_with fail
  refine (pending_any _ _ _ _ _ h8 (by have := (flush_Ok okr).size0; omega) (by rw [fp.out]; simp)).mono ?_
  rw [fl.out]
  rintro e w9 ⟨⟨a9, cap9, rfl, hs9⟩, k9⟩
  go_wp2_with fail
  go_ret
  refine ⟨rfl, ?_⟩
  have q1 := (clear_zero w.heap.size 10 (by omega)).ext x1 (Nat.le_refl _)
  have q3 := q1.ext x3 (by have := k1.size; have := k2.size; omega)
  have t2 := below_grow k1 (Nat.le_refl _) k2
  have t3 := chg_grow t2 (Nat.le_refl _) k3 q1
  have t5 := chg_grow (below_grow t3 (Nat.le_refl _) k4) (Nat.le_refl _) k5 q3
  have t8 := chg_grow (below_grow (below_grow t5 (Nat.le_refl _) k6) (Nat.le_refl _) k7) (Nat.le_refl _) k8 q3
  exact below_grow t8 (Nat.le_refl _) k9
end Go.Proofs.Ytlkebppmdbgdmaa
