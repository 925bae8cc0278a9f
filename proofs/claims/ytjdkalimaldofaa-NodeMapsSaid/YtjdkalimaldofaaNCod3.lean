/-
  The codec's writer: Raw, Done.
-/
import Derived.Test.YtjdkalimaldofaaNCod2
namespace Go.Proofs.Ytjdkalimaldofaa
open Go.RowKit
set_option linter.unusedSimpArgs false
set_option linter.unusedVariables false
/-- a string's bytes -/
def bts (s : ByteArray) : List Int := s.data.toList.map (fun b => (b.toNat : Int))
theorem bts_len (s : ByteArray) : (bts s).length = s.size := by unfold bts; rw [List.length_map, Array.length_toList]; rfl
theorem str_bts (s : ByteArray) : strOfNums (bts s) = s := by
  cases s with
  | mk d =>
    simp only [strOfNums, bts, List.map_map]
    congr 1
    apply Array.ext'
    simp [Function.comp_def]
theorem bytes_bl (w : World) (s : ByteArray) : Bl w (Lib.bytesWorld w 5 s) :=
  ⟨rfl, rfl, rfl, by rw [Lib.bytesWorld_size]; omega, fun k hk => Lib.bytesWorld_at_old w 5 s k hk⟩
theorem bytes_rd (w : World) (s : ByteArray) (hs : s.size ≤ 140737488355328) : RdAt (Lib.bytesWorld w 5 s) (fun k => k = w.heap.size) 1 (.slice (some ⟨w.heap.size, 0, none⟩) s.size (grownCap w s.size 0 5)) (bts s).length (bcells (bts s)) := by
  rw [bts_len]
  refine ⟨by rw [bcells_len, bts_len, Nat.mul_one], _, _, rfl, grownCap_ge w s.size 0 5, grownCap_le_maxLen w s.size 0 5 (by unfold maxLen; omega), fun hn => ⟨w.heap.size, 0, rfl, rfl, by rw [Lib.bytesWorld_size]; omega, fun j u hj => ?_⟩⟩
  have hl : j < (bts s).length := by
    have := List.getElem?_eq_some_iff.1 hj
    obtain ⟨h, _⟩ := this
    simpa using h
  rw [bcells_get hl] at hj
  rw [Nat.zero_add, Lib.bytesWorld_cell w 5 s j (by rw [← bts_len]; exact hl), ← hj]
  have hl2 : j < s.data.toList.length := by simpa [bts] using hl
  have hl3 : j < s.data.size := by simpa using hl2
  simp [bts, List.getD, hl2, Array.getElem?_eq_getElem hl3]
theorem conv_str (w : World) (own : Nat → Prop) (v : Value) (xs : List Int) (h : RdAt w own 1 v xs.length (bcells xs)) : (convert 36 9 v).run Try.prog w = .ok (.string (strOfNums xs)) w := by
  obtain ⟨h1, a, cap, rfl, h2, h3, h4⟩ := h
  by_cases hn : 0 < xs.length
  · obtain ⟨g, off, rfl, _, _, hc⟩ := h4 hn
    refine run_convert_bytes_arg w 36 5 Try.underlying36 Try.underlying5 g off xs.length cap xs rfl (fun i hi => ?_) 9 Try.underlying9
    rw [hc i _ (bcells_get hi)]
    simp [List.getD, hi]
  · have : xs = [] := List.length_eq_zero_iff.1 (by omega)
    subst this
    rw [run_convert_bytes_string w 36 9 5 a _ cap Try.underlying36 Try.underlying5 Try.underlying9]
    cases a with
    | none => simp [Conv.bytesToString, strOfNums]; rfl
    | some p =>
      have := run_bytesToString (P := Try.prog) w p 0 cap [] (by simpa using run_loadCells_list (P := Try.prog) w p [] (by simp))
      exact this
set_option maxHeartbeats 1000000 in
theorem raw_any (w : World) (M b : Nat) (most : Int) (xs : List Int) (hw : Wr w M b most xs) (hm : most ≤ 1073741824) (s : ByteArray) (hfit : (xs.length : Int) + s.size ≤ most) :
    Calls Try.prog 42 #[.pointer (some ⟨b, 0, none⟩), .string s] w fun e w' => e = .returned (.tuple #[]) ∧ Wr w' M b most (xs ++ bts s) ∧ Chg (fun j => M ≤ j) w w' := by
  have hcv := Lib.run_convert_string_bytes (P := Try.prog) w 9 36 5 s Try.underlying9 Try.underlying36 Try.underlying5
  have HM := Lib.hid (And.intro hm hfit)
  clear hm hfit
  go_enter Try.func42, Try.ntmps42
  go_wp2_with fail
  refine (put_any _ M b most xs (hw.bl (bytes_bl w s)) HM.out.1 _ _ (bts s) (bytes_rd w s (by have := HM.out; omega)) (by rw [bts_len]; exact HM.out.2)).mono ?_
  rintro e w2 ⟨rfl, hw2, hc2⟩
  go_wp2_with fail
  go_end0
  exact ⟨rfl, hw2, (Chg.of_below (bytes_bl w s)).trans hc2⟩
set_option maxHeartbeats 1000000 in
theorem done_any (w : World) (M b : Nat) (most : Int) (xs : List Int) (hw : Wr w M b most xs) :
    Calls Try.prog 46 #[.pointer (some ⟨b, 0, none⟩)] w fun e w' => e = .returned (.tuple #[.string (strOfNums xs), .int .i64 0]) ∧ w' = w := by
  obtain ⟨a, cap, h⟩ := hw
  have hcv := conv_str w _ _ xs h.sl.rd
  have x1 : w.cell? ⟨b, 1, none⟩ = some (.slice a xs.length cap) := (cell_of_block h.blk 1).trans rfl
  have x2 : w.cell? ⟨b, 2, none⟩ = some (.bool false) := (cell_of_block h.blk 2).trans rfl
  go_enter Try.func46, Try.ntmps46
  go_wp2_with fail
  go_ret2
  exact ⟨rfl, rfl⟩
end Go.Proofs.Ytjdkalimaldofaa
