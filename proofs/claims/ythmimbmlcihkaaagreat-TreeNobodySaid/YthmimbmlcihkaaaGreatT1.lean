/-
  A tree's node and a tree in memory; New, made, places, dirty, fetch, holds, at, fits.
-/
import Derived.Test.YthmimbmlcihkaaaGreatNPutErr
import Derived.Test.YthmimbmlcihkaaaGreatNRemove
import Derived.Test.YthmimbmlcihkaaaGreatNFind3
import Derived.Test.YthmimbmlcihkaaaGreatNSize4
import Derived.Deep.QuietTactic
import Derived.BigQuiet
namespace Go.Proofs.YthmimbmlcihkaaaGreat
open Go.RowKit
set_option linter.unusedSimpArgs false
set_option linter.unusedVariables false
set_option maxRecDepth 100000

def ptr (k : Nat) : Value := .pointer (some ⟨k, 0, none⟩)
abbrev AllB : Nat → Prop := fun _ => True
/-- the numbers below n -/
def upTo (n : Nat) : List Int := (List.range n).map Int.ofNat
theorem upTo_len (n : Nat) : (upTo n).length = n := by simp [upTo]
theorem upTo_succ (n : Nat) : upTo (n + 1) = upTo n ++ [(n : Int)] := by simp [upTo, List.range_succ]
/-- a knot's cells -/
def knotC (n : ND) (ka : Option Addr) (kc : Nat) (va : Option Addr) (vc : Nat) (ia : Option Addr) (ic : Nat) (pa : Option Addr) (pn pc : Nat) (sector : Int) : Array Value :=
  #[.bool n.leaf, .slice ka n.keys.length kc, .slice va n.values.length vc, .slice ia n.kids.length ic, .slice pa pn pc, .int .i64 sector, .bool true]
/-- a knot in memory: its node, the blocks of its kids, its sector -/
def KnotOn (own : Nat → Prop) (w : World) (b : Nat) (n : ND) (ps : List Nat) (sector : Int) : Prop :=
  ∃ ka kc va vc ia ic pa pc, w.heap[b]? = some (.cells (knotC n ka kc va vc ia ic pa ps.length pc sector) 84 (0, 0)) ∧ NodeIn w own n ka kc va vc ia ic ∧ RdAt w own 1 (.slice pa ps.length pc) ps.length (ps.map ptr)
abbrev KnotIn := KnotOn AllB
theorem KnotOn.below {own : Nat → Prop} {w w' : World} {b : Nat} {n : ND} {ps : List Nat} {sector : Int} (h : KnotOn own w b n ps sector) (k : Bl w w') : KnotOn own w' b n ps sector := by
  obtain ⟨ka, kc, va, vc, ia, ic, pa, pc, h1, h2, h3⟩ := h
  exact ⟨ka, kc, va, vc, ia, ic, pa, pc, below_keeps k h1 (lt_of_block h1), h2.below k, h3.below k⟩
theorem KnotIn.below {w w' : World} {b : Nat} {n : ND} {ps : List Nat} {sector : Int} (h : KnotIn w b n ps sector) (k : Bl w w') : KnotIn w' b n ps sector := KnotOn.below h k
theorem KnotOn.mono {own own2 : Nat → Prop} {w : World} {b : Nat} {n : ND} {ps : List Nat} {sector : Int} (h : KnotOn own w b n ps sector) (ho : ∀ k, k < w.heap.size → own k → own2 k) : KnotOn own2 w b n ps sector := by
  obtain ⟨ka, kc, va, vc, ia, ic, pa, pc, h1, h2, h3⟩ := h
  exact ⟨ka, kc, va, vc, ia, ic, pa, pc, h1, ⟨RdAt.mono h2.keys ho, RdAt.mono h2.values ho, RdAt.mono h2.kids ho⟩, RdAt.mono h3 ho⟩
theorem KnotIn.on {w : World} {b : Nat} {n : ND} {ps : List Nat} {sector : Int} (h : KnotIn w b n ps sector) : KnotOn (fun k => k < w.heap.size) w b n ps sector := KnotOn.mono h (fun _ hk _ => hk)
theorem KnotOn.all {own : Nat → Prop} {w : World} {b : Nat} {n : ND} {ps : List Nat} {sector : Int} (h : KnotOn own w b n ps sector) : KnotIn w b n ps sector := h.mono (fun _ _ _ => trivial)
theorem KnotIn.lt {w : World} {b : Nat} {n : ND} {ps : List Nat} {sector : Int} (h : KnotIn w b n ps sector) : b < w.heap.size := by
  obtain ⟨ka, kc, va, vc, ia, ic, pa, pc, h1, h2, h3⟩ := h
  exact lt_of_block h1
/-- a tree's struct -/
def TreeIn (w : World) (tb : Nat) (size : Int) (rv : Value) (kb : Nat) : Prop := w.heap[tb]? = some (.cells #[.int .i64 size, rv, ptr kb] 65 (0, 0))
theorem TreeIn.below {w w' : World} {tb : Nat} {size : Int} {rv : Value} {kb : Nat} (h : TreeIn w tb size rv kb) (k : Bl w w') : TreeIn w' tb size rv kb := below_keeps k h (lt_of_block h)
theorem TreeIn.cells {w : World} {tb : Nat} {size : Int} {rv : Value} {kb : Nat} (h : TreeIn w tb size rv kb) : w.cell? ⟨tb, 0, none⟩ = some (.int .i64 size) ∧ w.cell? ⟨tb, 1, none⟩ = some rv ∧ w.cell? ⟨tb, 2, none⟩ = some (ptr kb) := by
  refine ⟨?_, ?_, ?_⟩ <;> (rw [cell_of_block h]; rfl)
section
variable {w : World} {tb kb : Nat} {size : Int} {rv : Value}
theorem made_any (h : TreeIn w tb size rv kb) : Calls Tryz.prog 25 #[ptr tb] w fun e w' => e = .returned (.bool true) ∧ w' = w := by
  obtain ⟨-, -, c2⟩ := h.cells
  unfold ptr at *
  go_enter Tryz.func25, Tryz.ntmps25
  go_wp2
  go_ret
  exact ⟨rfl, rfl⟩
theorem made_nil (w : World) : Calls Tryz.prog 25 #[.pointer none] w fun e w' => e = .returned (.bool false) ∧ w' = w := by
  go_enter Tryz.func25, Tryz.ntmps25
  go_wp2
  go_ret
  exact ⟨rfl, rfl⟩
end
theorem right512 (w : World) : Calls Tryz.prog 23 #[.int .i64 512] w fun e w' => e = .returned (.bool true) ∧ w' = w := by
  go_enter Tryz.func23, Tryz.ntmps23
  go_wp2
  go_ret
  exact ⟨rfl, rfl⟩
set_option maxHeartbeats 1000000 in
theorem places_any (w : World) (n : Nat) (hn : n ≤ 1048576) : Calls Tryz.prog 48 #[.int .i64 n] w fun e w' => (∃ a cap, e = .returned (.slice a n cap) ∧ SlAt w' (fun j => w.heap.size ≤ j) 3 1 (.slice a n cap) n (icells (upTo n))) ∧ Bl w w' := by
  obtain ⟨i3, hi3, hz0, hz1, hz2⟩ := info_parts info3
  go_enter Tryz.func48, Tryz.ntmps48
  go_wp2_with fail
  go_loopw [3, 4, 6] (fun v3 _ v6 wr => ∃ (k : Nat) (a : Option Addr) (cap : Nat), k ≤ n ∧ v6 = .int .i64 k ∧ v3 = .slice a k cap ∧ SlAt wr (fun j => w.heap.size ≤ j) 3 1 v3 k (icells (upTo k)) ∧ Bl w wr) (fun _ _ i _ => n - (intOf i).toNat)
  case atStart => exact ⟨0, none, 0, Nat.zero_le _, rfl, rfl, SlAt.nil _ _ _ _ _, Bl.refl _⟩
  case round =>
    obtain ⟨k, a, cap, hk, rfl, rfl, hsl, hb⟩ := hrel
    have j0 : (0 : Int) ≤ (k : Int) := by omega
    have hsz := hb.size
    by_cases hlt : k < n
    · have j1 : (k : Int) < (n : Int) := by omega
      have j2 : (k : Int) ≤ 1048576 := by omega
      have HX : Hid (icells (upTo (k + 1)) = icells (upTo k) ++ [.int .i64 k]) := by show _ = _; rw [upTo_succ]; unfold icells; rw [List.map_append]; rfl
      generalize icells (upTo k) = xs at *
      have HB := Lib.hid hb
      clear hb
      go_wp2_with (at_builtin; refine wpList_append_sl rfl (.tmp 9) (.tmp 11) 32 rfl 3 i3 (.int .i64 0) 1 8 Tryz.underlying32 hi3 hz0 hz1 hz2 rfl (fun j => w.heap.size ≤ j) (.slice a k cap) k xs rfl ?_ (fun j => j = wr.heap.size) (.slice (some ⟨wr.heap.size, 0, none⟩) 1 1) 1 [.int .i64 k] (by simp [Act.eval]) ?_ ?_ ?_ ?_ ?_; exact hsl.below ((Below.refl _ _).alloc (Nat.le_refl _) _); exact rd_newG (by simp) rfl (by unfold maxLen; omega); simp [Value.oneCell']; (unfold maxLen; omega); omega; intro v7 w7 hs7 hc7; obtain ⟨a7, cap7, rfl⟩ := hs7.shape)
      go_roundw
      case rel =>
        refine ⟨k + 1, a7, cap7, by omega, by go_num, rfl, ?_, Below.trans HB.out (Below.trans ((Below.refl w.heap.size wr).alloc hsz _) (hc7.below (by simp; omega) (fun i hi e => by omega)))⟩
        rw [HX.out]
        exact hs7.mono (fun j _ e => by rcases e with e | e; exact e; (simp at e; omega))
      case measure => simp [intOf]; omega
    · obtain rfl : k = n := by omega
      go_wp2_with fail
      go_ret
      exact ⟨⟨a, cap, rfl, hsl⟩, hb⟩
end Go.Proofs.YthmimbmlcihkaaaGreat
