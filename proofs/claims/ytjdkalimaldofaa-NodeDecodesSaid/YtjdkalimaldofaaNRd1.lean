/-
  The codec's reader: NewReader, Err, fault, Raw.
-/
import Derived.Test.YtjdkalimaldofaaNCod3
namespace Go.Proofs.Ytjdkalimaldofaa
open Go.RowKit
set_option linter.unusedSimpArgs false
set_option linter.unusedVariables false
/-- a reader's block -/
def Rdr (w : World) (b : Nat) (s : ByteArray) (e : Int) : Prop := w.heap[b]? = some (.cells #[.string s, .int .i64 e] 101 (0, 0))
theorem Rdr.bl {w w' : World} {b : Nat} {s : ByteArray} {e : Int} (h : Rdr w b s e) (k : Bl w w') : Rdr w' b s e := below_keeps k h (lt_of_block h)
theorem Rdr.chg {w w' : World} {own : Nat → Prop} {b : Nat} {s : ByteArray} {e : Int} (h : Rdr w b s e) (k : Chg own w w') (ho : ¬ own b) : Rdr w' b s e := k.keeps h ho
theorem Rdr.parts {w : World} {b : Nat} {s : ByteArray} {e : Int} (h : Rdr w b s e) : w.cell? ⟨b, 0, none⟩ = some (.string s) ∧ w.cell? ⟨b, 1, none⟩ = some (.int .i64 e) ∧ w.frozen? ⟨b, 0, none⟩ = false ∧ w.frozen? ⟨b, 1, none⟩ = false :=
  ⟨(cell_of_block h 0).trans rfl, (cell_of_block h 1).trans rfl, free_of_block h 0, free_of_block h 1⟩
theorem newreader_any (w : World) (s : ByteArray) :
    Calls Try.prog 53 #[.string s] w fun e w' => e = .returned (.pointer (some ⟨w.heap.size, 0, none⟩)) ∧ Rdr w' w.heap.size s 0 ∧ Bl w w' := by
  go_enter Try.func53, Try.ntmps53
  go_wp2_with fail
  go_ret
  exact ⟨rfl, block_new _ _, (Bl.refl _).alloc _⟩
theorem err_any (w : World) (b : Nat) (s : ByteArray) (e : Int) (h : Rdr w b s e) :
    Calls Try.prog 58 #[.pointer (some ⟨b, 0, none⟩)] w fun x w' => x = .returned (.int .i64 e) ∧ w' = w := by
  obtain ⟨x0, x1, g0, g1⟩ := h.parts
  go_enter Try.func58, Try.ntmps58
  go_wp2_with fail
  go_ret
  exact ⟨rfl, rfl⟩
theorem fault_any (w : World) (b : Nat) (s : ByteArray) (x : Int) (h : Rdr w b s 0) :
    Calls Try.prog 79 #[.pointer (some ⟨b, 0, none⟩), .int .i64 x] w fun e w' => e = .returned (.string ⟨#[]⟩) ∧ Rdr w' b s x ∧ Chg (fun j => j = b) w w' := by
  obtain ⟨x0, x1, g0, g1⟩ := h.parts
  go_enter Try.func79, Try.ntmps79
  go_wp2_with fail
  go_ret
  refine ⟨rfl, ?_, (Chg.refl _ _).setCell _ _ (fun _ => rfl)⟩
  rw [Rdr, block_set h]
  rfl
theorem raw_stopped (w : World) (b : Nat) (s : ByteArray) (e k : Int) (h : Rdr w b s e) (he : e ≠ 0) :
    Calls Try.prog 54 #[.pointer (some ⟨b, 0, none⟩), .int .i64 k] w fun x w' => x = .returned (.string ⟨#[]⟩) ∧ Bl w w' := by
  obtain ⟨x0, x1, g0, g1⟩ := h.parts
  have hb : (e != 0) = true := by simpa using he
  go_enter Try.func54, Try.ntmps54
  go_wp2_with fail
  go_ret
  exact ⟨rfl, Bl.refl _⟩
theorem raw_short (w : World) (b : Nat) (s : ByteArray) (k : Int) (h : Rdr w b s 0) (hk : (s.size : Int) < k) :
    Calls Try.prog 54 #[.pointer (some ⟨b, 0, none⟩), .int .i64 k] w fun x w' => x = .returned (.string ⟨#[]⟩) ∧ Rdr w' b s 20 ∧ Chg (fun j => j = b) w w' := by
  obtain ⟨x0, x1, g0, g1⟩ := h.parts
  have hn : ¬ k < 0 := by omega
  go_enter Try.func54, Try.ntmps54
  go_wp2_with fail
  refine (fault_any _ b s 20 h).mono ?_
  rintro e w2 ⟨rfl, h2, c2⟩
  go_wp2_with fail
  go_ret
  exact ⟨rfl, h2, c2⟩
theorem raw_ok (w : World) (b : Nat) (s : ByteArray) (k : Nat) (h : Rdr w b s 0) (hk : k ≤ s.size) (hs : s.size ≤ 8192) :
    Calls Try.prog 54 #[.pointer (some ⟨b, 0, none⟩), .int .i64 k] w fun x w' => x = .returned (.string (s.extract 0 k)) ∧ Rdr w' b (s.extract k s.size) 0 ∧ Chg (fun j => j = b) w w' := by
  obtain ⟨x0, x1, g0, g1⟩ := h.parts
  have hn : ¬ (k : Int) < 0 := by omega
  have hn2 : ¬ (s.size : Int) < k := by omega
  have hki : (k : Int) ≤ (s.size : Int) := by omega
  have hk0 : (0 : Int) ≤ (k : Int) := by omega
  go_enter Try.func54, Try.ntmps54
  go_wp2_with fail
  go_ret
  refine ⟨rfl, ?_, (Chg.refl _ _).setCell _ _ (fun _ => rfl)⟩
  rw [Rdr, block_set h]
  rfl
/-- what Raw gives, leaves, and says -/
def rawT (s : ByteArray) (e : Int) (k : Nat) : ByteArray := if e = 0 ∧ k ≤ s.size then s.extract 0 k else ⟨#[]⟩
def rawS (s : ByteArray) (e : Int) (k : Nat) : ByteArray := if e = 0 ∧ k ≤ s.size then s.extract k s.size else s
def rawE (s : ByteArray) (e : Int) (k : Nat) : Int := if e = 0 then (if k ≤ s.size then 0 else 20) else e
theorem rdraw_any (w : World) (b : Nat) (s : ByteArray) (e : Int) (k : Nat) (h : Rdr w b s e) (hs : s.size ≤ 8192) :
    Calls Try.prog 54 #[.pointer (some ⟨b, 0, none⟩), .int .i64 k] w fun x w' => x = .returned (.string (rawT s e k)) ∧ Rdr w' b (rawS s e k) (rawE s e k) ∧ Chg (fun j => j = b) w w' := by
  unfold rawT rawS rawE
  by_cases he : e = 0
  · subst he
    by_cases hk : k ≤ s.size
    · rw [if_pos ⟨rfl, hk⟩, if_pos ⟨rfl, hk⟩, if_pos rfl, if_pos hk]
      exact raw_ok w b s k h hk hs
    · rw [if_neg (fun c => hk c.2), if_neg (fun c => hk c.2), if_pos rfl, if_neg hk]
      exact raw_short w b s k h (by omega)
  · rw [if_neg (fun c => he c.1), if_neg (fun c => he c.1), if_neg he]
    exact (raw_stopped w b s e k h he).mono (fun x w' q => ⟨q.1, h.bl q.2, Chg.of_below q.2⟩)
end Go.Proofs.Ytjdkalimaldofaa
