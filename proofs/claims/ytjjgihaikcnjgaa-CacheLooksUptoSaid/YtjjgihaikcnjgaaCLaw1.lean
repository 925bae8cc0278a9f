/-
  fill, sameBytes, awake of the laws of the cache.
-/
import Derived.Test.YtjjgihaikcnjgaaCRest
import Derived.WalkSpells
namespace Go.Proofs.Ytjjgihaikcnjgaa
open Go.RowKit Go.Maps
set_option linter.unusedSimpArgs false
set_option linter.unusedVariables false
set_option maxRecDepth 100000

/-- k bytes c, then zeros -/
def repTo (n : Nat) (c : Int) (k : Nat) : List Int := List.replicate k c ++ List.replicate (n - k) 0
def rep (n : Nat) (c : Int) : List Int := List.replicate n c
theorem repTo_len (n : Nat) (c : Int) (k : Nat) (h : k ≤ n) : (repTo n c k).length = n := by simp [repTo]; omega
theorem repTo_succ (n : Nat) (c : Int) (k : Nat) (h : k < n) : (repTo n c k).set k c = repTo n c (k + 1) := by
  unfold repTo
  rw [List.set_append_right _ _ (by simp)]
  have : n - k = (n - (k + 1)) + 1 := by omega
  rw [this, List.replicate_succ]
  simp [List.replicate_succ']
theorem fill_low (w : World) (n : Nat) (c : Int) (hn : n ≤ 1048576) (hc : 0 ≤ c ∧ c < 256) :
    Calls Try.prog 15 #[.int .i64 n, .int .u8 c] w fun e w' => (e = .returned (.slice (some ⟨w.heap.size, 0, none⟩) n n) ∧ w'.heap[w.heap.size]? = some (.cells (bcells (rep n c)).toArray 5 (0, 0))) ∧ Below w.heap.size w w' := by
  obtain ⟨i0, hi, hz0, hz1, hz2⟩ := info_parts info5
  have hmk : ∀ u : World, (Instr.makeSlice 34 (.int .i64 (n : Int)) (.int .i64 (n : Int))).run Try.prog u =
      .ok (.slice (some ⟨u.heap.size, 0, none⟩) n n) (u.alloc (.cells (bcells (zeros n)).toArray 5)) := fun u => by
    have h := run_make (P := Try.prog) u 34 5 i0 (.int .u8 0) Try.underlying34 hi hz0 .i64 .i64 (n : Int) (n : Int) (by omega) (Int.le_refl _) (by rw [hz2]; omega) (by omega)
    rw [hz1, Nat.mul_one] at h
    rw [← madeCells_zeros]
    exact h
  go_enter Try.func15, Try.ntmps15
  go_wp2
  go_loopw [6, 11] (fun _ i wr => ∃ k : Nat, k ≤ n ∧ i = .int .i64 k ∧ Hid (wr.heap[w.heap.size]? = some (.cells (bcells (repTo n c k)).toArray 5 (0, 0))) ∧ Below w.heap.size w wr) (fun _ i _ => n - (intOf i).toNat)
  case atStart => exact ⟨0, by omega, rfl, by rw [show repTo n c 0 = zeros n by simp [repTo, zeros]]; exact block_new _ _, (Below.refl _ _).alloc (Nat.le_refl _) _⟩
  case round =>
    obtain ⟨k, hk, rfl, hblk, hbw⟩ := hrel
    by_cases hlt : k < n
    · have c1 := cell_bytes hblk.out (k := k) (by rw [repTo_len n c k hk]; exact hlt)
      have f1 := free_of_block hblk.out k
      have i0' : (0 : Int) ≤ (k : Int) := by omega
      have i1 : (k : Int) < (n : Int) := by omega
      go_wp2
      go_roundw
      case rel =>
        refine ⟨k + 1, by omega, by go_num, ?_, hbw.setCell (Nat.le_refl _) _⟩
        show _ = _
        rw [block_set hblk.out, set_bytes, repTo_succ n c k hlt]
      case measure => simp [intOf]; omega
    · obtain rfl : k = n := by omega
      go_wp2
      go_ret
      have e : rep k c = repTo k c k := by simp [rep, repTo]
      exact ⟨⟨rfl, by rw [e]; exact hblk.out⟩, hbw⟩
@[simp] theorem rep_len (n : Nat) (c : Int) : (rep n c).length = n := by simp [rep]
theorem fill_any (w : World) (col : Nat → Nat) (hnm : Norm w col) (n : Nat) (c : Int) (hn : n ≤ 1048576) (hc : 0 ≤ c ∧ c < 256) :
    Calls Try.prog 15 #[.int .i64 n, .int .u8 c] w fun e w' => (∃ a cap, e = .returned (.slice a n cap) ∧ SlAt w' (Nil0 col) 5 1 (.slice a n cap) n (bcells (rep n c))) ∧ Below w.heap.size w w' := by
  refine (fill_low w n c hn hc).mono ?_
  rintro e w' ⟨⟨rfl, hb⟩, k⟩
  refine ⟨⟨_, _, rfl, by simp, Or.inr ⟨w.heap.size, 0, n, _, rfl, hnm _ (Nat.le_refl _), hb, Nat.le_refl _, by unfold maxLen; omega, by simp, ?_⟩⟩, k⟩
  rw [List.take_of_length_le (by simp)]; simp
theorem conv_str (w : World) (own : Nat → Prop) (v : Value) (xs : List Int) (h : RdAt w own 1 v xs.length (bcells xs)) : (convert 34 9 v).run Try.prog w = .ok (.string (strOfNums xs)) w := by
  obtain ⟨h1, a, cap, rfl, h2, h3, h4⟩ := h
  by_cases hn : 0 < xs.length
  · obtain ⟨g, off, rfl, _, _, hc⟩ := h4 hn
    refine run_convert_bytes_arg w 34 5 Try.underlying34 Try.underlying5 g off xs.length cap xs rfl (fun i hi => ?_) 9 Try.underlying9
    rw [hc i _ (bcells_get hi)]
    simp [List.getD, hi]
  · have : xs = [] := List.length_eq_zero_iff.1 (by omega)
    subst this
    rw [run_convert_bytes_string w 34 9 5 a _ cap Try.underlying34 Try.underlying5 Try.underlying9]
    cases a with
    | none => simp [Conv.bytesToString, strOfNums]; rfl
    | some p =>
      have := run_bytesToString (P := Try.prog) w p 0 cap [] (by simpa using run_loadCells_list (P := Try.prog) w p [] (by simp))
      exact this
theorem same_any (w : World) (own own2 : Nat → Prop) (v u : Value) (l : List Int) (hl : RdAt w own 1 v l.length (bcells l)) (hm : RdAt w own2 1 u l.length (bcells l)) :
    Calls Try.prog 21 #[v, u] w fun e w' => e = .returned (.bool true) ∧ w = w' := by
  have h1 := conv_str w own v l hl
  have h2 := conv_str w own2 u l hm
  clear hl hm
  go_enter Try.func21, Try.ntmps21
  go_wp2
  go_ret
  exact ⟨by simp, rfl⟩
end Go.Proofs.Ytjjgihaikcnjgaa
