/-
  slices.Backward over a list of sectors: its contract: the elements come from the last one on, with their places.
-/
import Derived.Test.YtjjgihaikcnjgaaDWalks2
import Derived.RangeFuncNested
import Derived.RangeFuncBox
import Derived.RangeFuncLeaves
import Derived.Shelf.Abstract
import Derived.OwnWalkIn
import Derived.TacticsInMore
import Derived.LoopNIn
import Derived.LoopIn
namespace Go.Proofs.Ytjjgihaikcnjgaa
open Go.RowKit Go.Shelf
set_option linter.unusedSimpArgs false
set_option linter.unusedVariables false
set_option maxRecDepth 100000
attribute [local go_sem] Oper.semAt_some

/-- places below n -/
abbrev Below' (n : Nat) := { x : Nat // x < n }
/-- what has come behind k rounds, from the last one on -/
def downTo (n k : Nat) : List Nat := (List.range k).map fun i => n - 1 - i
theorem downTo_succ (n k : Nat) : downTo n (k + 1) = downTo n k ++ [n - 1 - k] := by simp [downTo, List.range_succ]
theorem downTo_length (n k : Nat) : (downTo n k).length = k := by simp [downTo]
/-- cell j of a list of sectors -/
def qel (qs : List Value) (j : Nat) : Value := .agg #[qs[j * 2]?.getD undef, qs[j * 2 + 1]?.getD undef]

set_option maxRecDepth 100000 in
set_option maxHeartbeats 2000000 in
theorem back_in (F : Fence) (n : Nat) (h50 : F.fn 74) (hro : F.round = none) (hn : 1 ≤ n) (l Bs n₀ g off len cap : Nat) (qs : List Value) (hlen : len ≤ 1073741824) (hpos : 0 < len) (hg : g < n₀) (J Jx : List (Below' len) → World → Prop)
    (hY : ∀ pre x W, J pre W → pre.length < len → YieldAt F (n - 1) Try.prog l #[.int .i64 (x.1 : Int), qel qs x.1] W fun e W' =>
      (e = .returned (.bool true) ∧ J (pre ++ [x]) W' ∧ Below n₀ W W') ∨ (e = .returned (.bool false) ∧ Jx (pre ++ [x]) W'))
    (W : World) (hBs0 : Bs < n₀) (hBs : W.cell? ⟨Bs, 0, none⟩ = some (.slice (some ⟨g, off, none⟩) len cap)) (hc : ∀ j, j < len * 2 → W.cell? ⟨g, off + j, none⟩ = some (qs[j]?.getD undef)) (h0 : J [] W) :
    CallsIn F n Try.prog 74 #[.func (.yield l) #[] #[], .pointer (some ⟨Bs, 0, none⟩)] W fun e W' => (∃ v, e = .returned v) ∧
      ((∃ ys, ys.map Subtype.val = downTo len len ∧ J ys W') ∨ (∃ pre, (∃ k, k ≤ len ∧ pre.map Subtype.val = downTo len k) ∧ Jx pre W')) := by
  refine callsIn_of_wp Try.func74 rfl h50 ?_ hro
  simp only [Try.ntmps74, List.size_toArray, List.length_cons, List.length_nil, Nat.reduceAdd, Nat.reduceSub, Array.replicate_succ, Array.replicate_zero, List.push_toArray, List.append_toArray, List.nil_append, List.cons_append]
  gi_wp2
  gi_loopw [3] (fun i wr => ∃ k : Nat, k ≤ len ∧ i = .int .i64 ((len : Int) - 1 - k) ∧ (∃ pre, pre.map Subtype.val = downTo len k ∧ J pre wr) ∧ Below n₀ W wr)
    (fun i _ => (intOf i + 1).toNat)
  case atStart => exact ⟨0, Nat.zero_le _, by simp, ⟨[], rfl, h0⟩, Below.refl _ _⟩
  case round =>
    obtain ⟨k, hk, rfl, ⟨pre, hpre, hJs⟩, hnx⟩ := hrel
    by_cases hlt : k < len
    · have hx : len - 1 - k < len := by omega
      obtain ⟨fn, tmps, assign, body, hy, hR⟩ := hY pre ⟨len - 1 - k, hx⟩ wr hJs (by have := congrArg List.length hpre; rw [List.length_map, downTo_length] at this; omega)
      have hBs' := (hnx.cell (p := ⟨Bs, 0, none⟩) hBs0).trans hBs
      have c1 := (hnx.cell (p := ⟨g, off + (len - 1 - k) * 2, none⟩) hg).trans (hc ((len - 1 - k) * 2) (by omega))
      have c2 : wr.cell? ⟨g, off + (len - 1 - k) * 2 + 1, none⟩ = some (qs[(len - 1 - k) * 2 + 1]?.getD undef) := (hnx.cell (p := ⟨g, off + ((len - 1 - k) * 2 + 1), none⟩) hg).trans (hc ((len - 1 - k) * 2 + 1) (by omega))
      have e1 : ((len : Int) - 1 - k).toNat = len - 1 - k := by omega
      have e2 : (((len - 1 - k : Nat)) : Int) = (len : Int) - 1 - k := by omega
      have b0 : (0 : Int) ≤ (len : Int) - 1 - k := by omega
      have b1 : (len : Int) - 1 - k < len := by omega
      have hpre' := Lib.hid (show (pre ++ [(⟨len - 1 - k, hx⟩ : Below' len)]).map Subtype.val = downTo len (k + 1) by rw [downTo_succ, List.map_append, hpre]; rfl)
      clear hpre
      dsimp only [qel] at hy
      rw [e2] at hy
      clear e2
      gi_wp2
      refine hR.mono ?_
      rintro e W3 (⟨rfl, hJ3, hk3⟩ | ⟨rfl, hJx3⟩)
      · gi_wp2
        go_roundw
        case rel => exact ⟨k + 1, by omega, by congr 1; omega, ⟨_, hpre'.out, hJ3⟩, hnx.trans hk3⟩
        case measure => simp [intOf]; omega
      · gi_wp2
        refine bodyPost_ret (results_none rfl _ _ _) rfl ?_
        exact ⟨⟨_, rfl⟩, .inr ⟨_, ⟨k + 1, by omega, hpre'.out⟩, hJx3⟩⟩
    · obtain rfl : k = len := by omega
      gi_wp2
      go_end0
      exact ⟨⟨_, rfl⟩, .inl ⟨pre, hpre, hJs⟩⟩

set_option maxRecDepth 100000 in
set_option maxHeartbeats 1000000 in
theorem back_nil_in (F : Fence) (n : Nat) (h50 : F.fn 74) (hro : F.round = none) (l Bs : Nat) (a : Option Addr) (cap : Nat) (J : List (Below' 0) → World → Prop) (W : World) (hBs : W.cell? ⟨Bs, 0, none⟩ = some (.slice a 0 cap)) (h0 : J [] W) :
    CallsIn F n Try.prog 74 #[.func (.yield l) #[] #[], .pointer (some ⟨Bs, 0, none⟩)] W fun e W' => (∃ v, e = .returned v) ∧ J [] W' := by
  refine callsIn_of_wp Try.func74 rfl h50 ?_ hro
  simp only [Try.ntmps74, List.size_toArray, List.length_cons, List.length_nil, Nat.reduceAdd, Nat.reduceSub, Array.replicate_succ, Array.replicate_zero, List.push_toArray, List.append_toArray, List.nil_append, List.cons_append]
  gi_wp2
  gi_loopw [3] (fun i wr => i = .int .i64 (-1) ∧ J [] wr) (fun _ _ => 0)
  case atStart => exact ⟨rfl, h0⟩
  case round =>
    obtain ⟨rfl, hJs⟩ := hrel
    gi_wp2
    go_end0
    exact ⟨⟨_, rfl⟩, hJs⟩

theorem backward_in (F : Fence) (n : Nat) (h40 : F.fn 52) (hro : F.round = none) (a : Option Addr) (len cap : Nat) (w : World) :
    CallsIn F n Try.prog 52 #[.slice a len cap] w fun e w' => e = .returned (.func (.func 74) #[] #[.pointer (some ⟨w.heap.size, 0, none⟩)]) ∧ w' = w.alloc (.cells #[.slice a len cap] 84) := by
  refine callsIn_of_wp Try.func52 rfl h40 ?_ hro
  simp only [Try.ntmps52, List.size_toArray, List.length_cons, List.length_nil, Nat.reduceAdd, Nat.reduceSub, Array.replicate_succ, Array.replicate_zero, List.push_toArray, List.append_toArray, List.nil_append, List.cons_append]
  gi_wp2
  go_ret
  exact ⟨rfl, rfl⟩

theorem back_stops (F : Fence) (n : Nat) (h50 : F.fn 74) (hro : F.round = none) (hn : 1 ≤ n) (Bs n₀ : Nat) (a : Option Addr) (len cap : Nat) (qs : List Value) (hlen : len ≤ 1073741824) (w : World) (hBs : Bs < n₀) (hn₀ : n₀ ≤ w.heap.size)
    (hc : w.cell? ⟨Bs, 0, none⟩ = some (.slice a len cap)) (hI : 0 < len → ∃ g off, a = some ⟨g, off, none⟩ ∧ g < n₀ ∧ ∀ j, j < len * 2 → w.cell? ⟨g, off + j, none⟩ = some (qs[j]?.getD undef)) :
    SeqStopsK F n Try.prog 74 #[.pointer (some ⟨Bs, 0, none⟩)] (fun x : Below' len => #[Value.int .i64 (x.1 : Int), qel qs x.1]) (Below n₀) (fun ys => ys.map Subtype.val = downTo len len) (fun pre => ∃ k, k ≤ len ∧ pre.map Subtype.val = downTo len k) len w := fun l J Jx W hW _ _ hY h0 => by
  have hc' := (hW.cell (p := ⟨Bs, 0, none⟩) (Nat.lt_of_lt_of_le hBs hn₀)).trans hc
  rcases Nat.eq_zero_or_pos len with rfl | hpos
  · exact (back_nil_in F n h50 hro l Bs a cap J W hc' h0).mono fun e W' ⟨he, hj⟩ => ⟨he, .inl ⟨_, rfl, hj⟩⟩
  · obtain ⟨g, off, rfl, hg, hcs⟩ := hI hpos
    refine (back_in F n h50 hro hn l Bs n₀ g off len cap qs hlen hpos hg J Jx hY W hBs hc' (fun j hj => (hW.cell (p := ⟨g, off + j, none⟩) (Nat.lt_of_lt_of_le hg hn₀)).trans (hcs j hj)) h0).mono ?_
    rintro e W' ⟨he, ⟨ys, h1, hj⟩ | ⟨pre, h1, hj⟩⟩
    · exact ⟨he, .inl ⟨_, h1, hj⟩⟩
    · exact ⟨he, .inr ⟨_, h1, hj⟩⟩
end Go.Proofs.Ytjjgihaikcnjgaa
