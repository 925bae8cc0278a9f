/-
  The walks of the laws' own small functions: sameBytes, sameInts, filled.
-/
import Derived.Test.YtlkebppmdbgdmaaWalks2
namespace Go.Proofs.Ytlkebppmdbgdmaa
open Go.RowKit
set_option linter.unusedSimpArgs false
set_option linter.unusedVariables false

def IntsAt (w : World) (own : Nat → Prop) (v : Value) (l : List Int) : Prop := RdAt w own 1 v l.length (l.map (Value.int .i64))
theorem icells_get {k : IntKind} {l : List Int} {j : Nat} (h : j < l.length) : (l.map (Value.int k))[j]? = some (.int k l[j]) := by simp [h]

theorem take_eq_succ {l m : List Int} {k : Nat} (hl : k < l.length) (hm : k < m.length) (h : l.take k = m.take k) (he : l[k] = m[k]) : l.take (k + 1) = m.take (k + 1) := by
  rw [List.take_succ_eq_append_getElem hl, List.take_succ_eq_append_getElem hm, h, he]
theorem ne_of_get {l m : List Int} {k : Nat} (hl : k < l.length) (hm : k < m.length) (he : ¬ l[k] = m[k]) : (l == m) = false := by
  simp only [beq_eq_false_iff_ne]
  intro e; subst e; exact he rfl
theorem eq_of_take {l m : List Int} (hlen : l.length = m.length) (h : l.take l.length = m.take l.length) : (l == m) = true := by
  rw [List.take_of_length_le (Nat.le_refl _), List.take_of_length_le (by omega)] at h
  simp [h]

set_option maxHeartbeats 400000 in
theorem sameBytes_any (w : World) (own own2 : Nat → Prop) (v u : Value) (l m : List Int) (hl : BytesAt w own v l) (hm : BytesAt w own2 u m) :
    Calls Try.prog 19 #[v, u] w fun e w' => e = .returned (.bool (l == m)) ∧ Below w.heap.size w w' := by
  obtain ⟨a, cap, rfl, hmax⟩ := RdAt.shape hl
  obtain ⟨a2, cap2, rfl, hmax2⟩ := RdAt.shape hm
  unfold maxLen at hmax hmax2
  by_cases hlen : l.length = m.length
  · have hne : ((l.length : Int) != (m.length : Int)) = false := by simp [hlen]
    have Hlen := Lib.hid hlen; clear hlen
    go_enter Try.func19, Try.ntmps19
    go_wp2
    go_loopw [5] (fun i wr => ∃ k : Nat, k ≤ l.length ∧ i = .int .i64 k ∧ Hid (l.take k = m.take k) ∧ Below w.heap.size w wr) (fun i _ => l.length - (intOf i).toNat)
    case atStart => exact ⟨0, by omega, rfl, by simp [Hid], Below.refl _ _⟩
    case round =>
      obtain ⟨k, hk, rfl, htk, hbw⟩ := hrel
      by_cases hlt : k < l.length
      · have hlt2 : k < m.length := by have := Hlen.out; omega
        obtain ⟨g, off, rfl, _, hg, hc⟩ := (hl.below hbw).get (by omega)
        obtain ⟨g2, off2, rfl, _, hg2, hc2⟩ := (hm.below hbw).get (by omega)
        have c1 := hc k _ (icells_get hlt)
        have c2 := hc2 k _ (icells_get hlt2)
        have i0 : (0 : Int) ≤ (k : Int) := by omega
        have i1 : (k : Int) < (l.length : Int) := by omega
        have i2 : (k : Int) < (m.length : Int) := by omega
        clear hc hc2
        by_cases he : l[k] = m[k]
        · have he' : (l[k] != m[k]) = false := by simp [he]
          have hnx : Hid (l.take (k + 1) = m.take (k + 1)) := take_eq_succ hlt hlt2 htk.out he
          clear he htk
          go_wp2
          go_region
          all_goals go_wp2
          all_goals go_roundw
          all_goals first | (case rel => exact ⟨k + 1, by omega, by go_num, hnx, hbw.drew⟩) | (case measure => simp [intOf]; omega)
        · have he' : (l[k] != m[k]) = true := by simp [he]
          have hnx := Lib.hid (ne_of_get hlt hlt2 he)
          clear he htk
          go_wp2
          go_region
          all_goals go_wp2
          all_goals go_ret
          all_goals exact ⟨by rw [hnx.out]; rfl, hbw.drew⟩
      · obtain rfl : k = l.length := by omega
        have hnx := Lib.hid (eq_of_take Hlen.out htk.out)
        clear htk
        go_wp2
        go_ret
        exact ⟨by rw [hnx.out]; rfl, hbw⟩
  · have hne : ((l.length : Int) != (m.length : Int)) = true := by simp; omega
    have e : (l == m) = false := by simp only [beq_eq_false_iff_ne]; intro e; subst e; exact hlen rfl
    rw [e]
    clear e hlen
    go_enter Try.func19, Try.ntmps19
    go_wp2
    go_ret
    exact ⟨rfl, Below.refl _ _⟩

set_option maxHeartbeats 400000 in
theorem sameInts_any (w : World) (own own2 : Nat → Prop) (v u : Value) (l m : List Int) (hl : IntsAt w own v l) (hm : IntsAt w own2 u m) :
    Calls Try.prog 28 #[v, u] w fun e w' => e = .returned (.bool (l == m)) ∧ Below w.heap.size w w' := by
  obtain ⟨a, cap, rfl, hmax⟩ := RdAt.shape hl
  obtain ⟨a2, cap2, rfl, hmax2⟩ := RdAt.shape hm
  unfold maxLen at hmax hmax2
  by_cases hlen : l.length = m.length
  · have hne : ((l.length : Int) != (m.length : Int)) = false := by simp [hlen]
    have Hlen := Lib.hid hlen; clear hlen
    go_enter Try.func28, Try.ntmps28
    go_wp2
    go_loopw [5] (fun i wr => ∃ k : Nat, k ≤ l.length ∧ i = .int .i64 k ∧ Hid (l.take k = m.take k) ∧ Below w.heap.size w wr) (fun i _ => l.length - (intOf i).toNat)
    case atStart => exact ⟨0, by omega, rfl, by simp [Hid], Below.refl _ _⟩
    case round =>
      obtain ⟨k, hk, rfl, htk, hbw⟩ := hrel
      by_cases hlt : k < l.length
      · have hlt2 : k < m.length := by have := Hlen.out; omega
        obtain ⟨g, off, rfl, _, hg, hc⟩ := (hl.below hbw).get (by omega)
        obtain ⟨g2, off2, rfl, _, hg2, hc2⟩ := (hm.below hbw).get (by omega)
        have c1 := hc k _ (icells_get hlt)
        have c2 := hc2 k _ (icells_get hlt2)
        have i0 : (0 : Int) ≤ (k : Int) := by omega
        have i1 : (k : Int) < (l.length : Int) := by omega
        have i2 : (k : Int) < (m.length : Int) := by omega
        clear hc hc2
        by_cases he : l[k] = m[k]
        · have he' : (l[k] != m[k]) = false := by simp [he]
          have hnx : Hid (l.take (k + 1) = m.take (k + 1)) := take_eq_succ hlt hlt2 htk.out he
          clear he htk
          go_wp2
          go_region
          all_goals go_wp2
          all_goals go_roundw
          all_goals first | (case rel => exact ⟨k + 1, by omega, by go_num, hnx, hbw.drew⟩) | (case measure => simp [intOf]; omega)
        · have he' : (l[k] != m[k]) = true := by simp [he]
          have hnx := Lib.hid (ne_of_get hlt hlt2 he)
          clear he htk
          go_wp2
          go_region
          all_goals go_wp2
          all_goals go_ret
          all_goals exact ⟨by rw [hnx.out]; rfl, hbw.drew⟩
      · obtain rfl : k = l.length := by omega
        have hnx := Lib.hid (eq_of_take Hlen.out htk.out)
        clear htk
        go_wp2
        go_ret
        exact ⟨by rw [hnx.out]; rfl, hbw⟩
  · have hne : ((l.length : Int) != (m.length : Int)) = true := by simp; omega
    have e : (l == m) = false := by simp only [beq_eq_false_iff_ne]; intro e; subst e; exact hlen rfl
    rw [e]
    clear e hlen
    go_enter Try.func28, Try.ntmps28
    go_wp2
    go_ret
    exact ⟨rfl, Below.refl _ _⟩


/-- what 'filled' makes: n bytes, the first 40 told by a byte -/
def filledTo (n : Nat) (c : Int) (k : Nat) : List Int := (List.range n).map fun i => if i < k ∧ i < 40 then (c + i) % 256 else 0
def filled (n : Int) (c : Int) : List Int := filledTo n.toNat c n.toNat
theorem filledTo_len (n : Nat) (c : Int) (k : Nat) : (filledTo n c k).length = n := by simp [filledTo]
theorem filledTo_zero (n : Nat) (c : Int) : filledTo n c 0 = zeros n := by
  apply List.ext_getElem
  · simp [filledTo, zeros]
  · intro i h1 h2; simp [filledTo, zeros]
theorem filledTo_succ (n : Nat) (c : Int) (k : Nat) (hk : k < n) (h40 : k < 40) : (filledTo n c k).set k ((c + k) % 256) = filledTo n c (k + 1) := by
  apply List.ext_getElem
  · simp [filledTo]
  · intro i h1 h2
    simp only [filledTo, List.getElem_set, List.getElem_map, List.getElem_range]
    by_cases e : k = i
    · subst e; simp [h40]
    · rw [if_neg e]
      have : (i < k ∧ i < 40) ↔ (i < k + 1 ∧ i < 40) := by omega
      simp only [this]
theorem filledTo_end (n : Nat) (c : Int) (k : Nat) (hk : ¬ (k < n ∧ k < 40)) (hkn : k ≤ n) : filledTo n c k = filledTo n c n := by
  apply List.ext_getElem
  · simp [filledTo]
  · intro i h1 h2
    simp only [filledTo, List.getElem_map, List.getElem_range]
    simp only [filledTo, List.length_map, List.length_range] at h1
    have : (i < k ∧ i < 40) ↔ (i < n ∧ i < 40) := by omega
    simp only [this]
theorem cell_bytes {w : World} {g : Nat} {l : List Int} {e : TypeId} {fr : Nat × Nat} (h : w.heap[g]? = some (.cells (bcells l).toArray e fr)) {k : Nat} (hk : k < l.length) : w.cell? ⟨g, k, none⟩ = some (.int .u8 l[k]) := by
  rw [cell_of_block h, List.getElem?_toArray]; exact bcells_get hk
theorem set_bytes (l : List Int) (k : Nat) (x : Int) : (bcells l).toArray.setIfInBounds k (.int .u8 x) = (bcells (l.set k x)).toArray := by simp [bcells, List.map_set]
def Filled (w : World) (l : List Int) (e : Ending) (w' : World) : Prop := ∃ g, e = .returned (.slice (some ⟨g, 0, none⟩) l.length l.length) ∧ w.heap.size ≤ g ∧ w'.heap[g]? = some (.cells (bcells l).toArray 5 (0, 0))

set_option maxHeartbeats 400000 in
theorem filled_any (w : World) (n c : Int) (hn : 0 ≤ n ∧ n ≤ 1048576) (hc : 0 ≤ c ∧ c < 256) :
    Calls Try.prog 13 #[.int .i64 n, .int .u8 c] w fun e w' => Filled w (filled n c) e w' ∧ Below w.heap.size w w' := by
  obtain ⟨n, rfl⟩ := Int.eq_ofNat_of_zero_le hn.1
  obtain ⟨i0, hi, hz0, hz1, hz2⟩ := info_parts info5
  have hn2 : n ≤ 1048576 := by omega
  have hmk : ∀ u : World, (Instr.makeSlice 30 (.int .i64 (n : Int)) (.int .i64 (n : Int))).run Try.prog u =
      .ok (.slice (some ⟨u.heap.size, 0, none⟩) n n) (u.alloc (.cells (bcells (zeros n)).toArray 5)) := fun u => by
    have h := run_make (P := Try.prog) u 30 5 i0 (.int .u8 0) Try.underlying30 hi hz0 .i64 .i64 (n : Int) (n : Int) (by omega) (Int.le_refl _) (by rw [hz2]; omega) (by omega)
    rw [hz1, Nat.mul_one] at h
    rw [← madeCells_zeros]
    exact h
  clear hn
  go_enter Try.func13, Try.ntmps13
  go_wp2
  go_loopw [6] (fun i wr => ∃ k : Nat, k ≤ n ∧ i = .int .i64 k ∧ Hid (wr.heap[w.heap.size]? = some (.cells (bcells (filledTo n c k)).toArray 5 (0, 0))) ∧ Below w.heap.size w wr) (fun i _ => n - (intOf i).toNat)
  case atStart => exact ⟨0, by omega, rfl, by rw [filledTo_zero]; exact block_new _ _, (Below.refl _ _).alloc (Nat.le_refl _) _⟩
  case round =>
    obtain ⟨k, hk, rfl, hblk, hbw⟩ := hrel
    by_cases hlt : k < n ∧ k < 40
    · obtain ⟨hlt, h40⟩ := hlt
      have c1 := cell_bytes hblk.out (k := k) (by rw [filledTo_len]; exact hlt)
      have f1 := free_of_block hblk.out k
      go_wp2
      go_roundw
      case rel =>
        refine ⟨k + 1, by omega, by go_num, ?_, hbw.setCell (Nat.le_refl _) _⟩
        show _ = _
        rw [block_set hblk.out, set_bytes, filledTo_succ n c k hlt h40]
      case measure => simp [intOf]; omega
    · have hend := Lib.hid (filledTo_end n c k hlt hk)
      by_cases h1 : k < n
      all_goals
        go_wp2
        go_ret
        have e : filled n c = filledTo n c n := by simp [filled]
        have hl : (filled n c).length = n := by rw [e, filledTo_len]
        exact ⟨⟨w.heap.size, by rw [hl]; rfl, Nat.le_refl _, by rw [e, ← hend.out]; exact hblk.out⟩, hbw⟩
end Go.Proofs.Ytlkebppmdbgdmaa
