/-
  The walk of 'lives': what must come of every program.
-/
import Derived.Test.YtjjgihaikcnjgaaDWalks5
import Derived.Test.YtjjgihaikcnjgaaDRead
namespace Go.Proofs.Ytjjgihaikcnjgaa
open Go.RowKit
set_option linter.unusedSimpArgs false
set_option linter.unusedVariables false
set_option maxRecDepth 100000

theorem Filled.bytes {w' : World} {l : List Int} {g : Nat} (h : w'.heap[g]? = some (.cells (bcells l).toArray 5 (0, 0))) (hl : l.length ≤ maxLen) : BytesAt w' (fun k => k = g) (.slice (some ⟨g, 0, none⟩) l.length l.length) l := by
  refine ⟨by simp, _, _, rfl, Nat.le_refl _, hl, fun _ => ⟨g, 0, rfl, rfl, lt_of_block h, ?_⟩⟩
  intro j u hj
  rw [cell_of_block h]
  simpa using hj
theorem filled_len (n c : Int) (h : 0 ≤ n) : ((filled n c).length : Int) = n := by simp only [filled, filledTo_len]; omega
theorem new_Ok {size count : Int} (h : fitsD size count = true) : (DS.new size count).Ok := by
  obtain ⟨a0, a1, a2, a3⟩ := fits_bounds h
  obtain ⟨m0, m1⟩ := mul_bounds (a := size) (b := count) (by omega) a1 (by omega) a3
  exact ⟨a0, a1, a2, a3, by simp [DS.new, zeros]; omega, by simp [DS.new], by simp [DS.new]⟩
theorem write_Ok {s : DS} (h : s.Ok) {n : Int} {l : List Int} (h0 : 0 ≤ n) (h1 : n < s.count) (h2 : (l.length : Int) = s.size) : (s.write n l).Ok := by
  unfold DS.write
  split
  · refine ⟨h.size0, h.size1, h.count0, h.count1, h.plen, ?_, ?_⟩
    · intro p hp
      rcases List.mem_append.1 hp with hp | hp
      · exact h.pend p hp
      · simp at hp; subst hp; exact ⟨h0, h1, h2⟩
    · have := h.left
      simp only [DS.tick]; split <;> simp_all <;> omega
  · exact h

theorem read_Ok {s : DS} (h : s.Ok) : s.read.Ok := ⟨h.size0, h.size1, h.count0, h.count1, h.plen, h.pend, h.left⟩
theorem flush_Ok {s : DS} (h : s.Ok) : s.flush.Ok := by
  unfold DS.flush
  split
  · refine ⟨h.size0, h.size1, h.count0, h.count1, ?_, by simp, ?_⟩
    · simp only; rw [foldl_len h _ (fun _ hp => hp) _ rfl]; exact h.plen
    · have := h.left
      simp only [DS.tick]; split <;> simp_all <;> omega
  · exact h
theorem crash_Ok {s : DS} (h : s.Ok) {keep : List Int} (hk : KeepOk s.pending.length keep) : (s.crash keep).Ok := by
  refine ⟨h.size0, h.size1, h.count0, h.count1, ?_, by simp [DS.crash], by simp [DS.crash]⟩
  simp only [DS.crash]
  rw [foldl_len h _ (kept_mem hk) _ rfl]; exact h.plen
theorem stop_Ok {s : DS} (h : s.Ok) {n : Int} (hn : n ≤ 9223372036854775807) : (s.stop n).Ok := by
  refine ⟨h.size0, h.size1, h.count0, h.count1, h.plen, h.pend, ?_⟩
  simp only [DS.stop]; split <;> omega

theorem chg_grow {B : Nat} {own : Nat → Prop} {a b c : World} (h : Below B a b) (hB : B ≤ a.heap.size) (k : Chg own b c) (ho : ∀ i, i < B → ¬ own i) : Below B a c := h.trans (k.below (Nat.le_trans hB h.size) ho)
/-- blocks that were there ahead of a disk have none of its colours -/
def Clear (B : Nat) (col : Nat → Nat) (c : Nat) : Prop := ∀ i, i < B → ¬ inC col c i
theorem Clear.ext {B n : Nat} {col col' : Nat → Nat} {c : Nat} (h : Clear B col c) (x : Ext n col col') (hn : B ≤ n) : Clear B col' c := fun i hi e => h i hi (by unfold inC at *; rw [x i (by omega)] at e; exact e)
theorem clear_zero (B c : Nat) (hc : 0 < c) : Clear B (fun _ => 0) c := fun i _ e => by simp only [inC] at e; omega
theorem Clear.norm {w : World} {col : Nat → Nat} {B c : Nat} (h : Norm w col) (hc : 0 < c) (z : Clear w.heap.size col c) : Clear B col c := fun i _ e => by
  by_cases hi : i < w.heap.size
  · exact z i hi e
  · have := h i (by omega); unfold inC at e; omega

end Go.Proofs.Ytjjgihaikcnjgaa
