/-
  The codec's writer: a writer in memory; NewWriter, put.
-/
import Derived.Test.YtjdkalimaldofaaNSplitA
import Derived.Laws.BytesArg
import Derived.Lib.ConvBytes
namespace Go.Proofs.Ytjdkalimaldofaa
open Go.RowKit
set_option linter.unusedSimpArgs false
set_option linter.unusedVariables false

def bcells (l : List Int) : List Value := l.map (Value.int .u8)
@[simp] theorem bcells_len (l : List Int) : (bcells l).length = l.length := by simp [bcells]
theorem bcells_one (l : List Int) : ∀ u ∈ bcells l, u.oneCell' = true := by
  intro u hu
  simp only [bcells, List.mem_map] at hu
  obtain ⟨x, _, rfl⟩ := hu
  rfl
theorem bcells_append (l m : List Int) : bcells (l ++ m) = bcells l ++ bcells m := by simp [bcells]
theorem bcells_get {l : List Int} {j : Nat} (h : j < l.length) : (bcells l)[j]? = some (.int .u8 l[j]) := by simp [bcells, h]
theorem info5 : (Try.prog.info? 5).map (fun i => (i.zero, i.size, i.bytes)) = some (some (.int .u8 0), 1, 1) := by kernel_rfl
/-- a writer's block b; all that is its own lies from M on -/
structure WrAt (w : World) (M b : Nat) (most : Int) (xs : List Int) (a : Option Addr) (cap : Nat) : Prop where
  lo : M ≤ b
  blk : w.heap[b]? = some (.cells #[.int .i64 most, .slice a xs.length cap, .bool false] 94 (0, 0))
  sl : SlAt w (fun j => M ≤ j ∧ j ≠ b) 5 1 (.slice a xs.length cap) xs.length (bcells xs)
def Wr (w : World) (M b : Nat) (most : Int) (xs : List Int) : Prop := ∃ a cap, WrAt w M b most xs a cap
theorem WrAt.chg {w w' : World} {M b : Nat} {most : Int} {xs : List Int} {a : Option Addr} {cap : Nat} {own : Nat → Prop} (h : WrAt w M b most xs a cap) (k : Chg own w w') (ho : ∀ j, j < w.heap.size → M ≤ j → ¬ own j) : WrAt w' M b most xs a cap :=
  ⟨h.lo, k.keeps h.blk (ho b (lt_of_block h.blk) h.lo), h.sl.keep (fun j hj e => k.block j hj (ho j hj e.1)) (fun _ _ e => e)⟩
theorem Wr.bl {w w' : World} {M b : Nat} {most : Int} {xs : List Int} (h : Wr w M b most xs) (k : Bl w w') : Wr w' M b most xs := by
  obtain ⟨a, cap, h⟩ := h
  exact ⟨a, cap, h.lo, below_keeps k h.blk (lt_of_block h.blk), h.sl.below k⟩

theorem newwriter_any (w : World) (most : Int) (h0 : 0 ≤ most) (h1 : most ≤ 9223372036854775807) :
    Calls Try.prog 41 #[.int .i64 most] w fun e w' => e = .returned (.pointer (some ⟨w.heap.size, 0, none⟩)) ∧ Wr w' w.heap.size w.heap.size most [] ∧ Bl w w' := by
  have hm : max most 0 = most := by omega
  go_enter Try.func41, Try.ntmps41
  go_wp2_with fail
  go_ret
  exact ⟨rfl, ⟨none, 0, Nat.le_refl _, block_new _ _, SlAt.nil _ _ _ _ _⟩, (Bl.refl _).alloc _⟩
set_option maxRecDepth 100000 in
set_option maxHeartbeats 1000000 in
theorem put_any (w : World) (M b : Nat) (most : Int) (xs : List Int) (hw : Wr w M b most xs) (hm : most ≤ 1073741824) (own : Nat → Prop) (x : Value) (ys : List Int) (hx : RdAt w own 1 x ys.length (bcells ys)) (hfit : (xs.length : Int) + ys.length ≤ most) :
    Calls Try.prog 75 #[.pointer (some ⟨b, 0, none⟩), x] w fun e w' => e = .returned (.tuple #[]) ∧ Wr w' M b most (xs ++ ys) ∧ Chg (fun j => M ≤ j) w w' := by
  obtain ⟨a, cap, h⟩ := hw
  obtain ⟨xa, xc, rfl, hxm⟩ := hx.shape
  obtain ⟨i5, hi5, hz0, hz1, hz2⟩ := info_parts info5
  have lb := lt_of_block h.blk
  have x0 : w.cell? ⟨b, 0, none⟩ = some (.int .i64 most) := (cell_of_block h.blk 0).trans rfl
  have x1 : w.cell? ⟨b, 1, none⟩ = some (.slice a xs.length cap) := (cell_of_block h.blk 1).trans rfl
  have x2 : w.cell? ⟨b, 2, none⟩ = some (.bool false) := (cell_of_block h.blk 2).trans rfl
  have hno : ¬ most - (xs.length : Int) < (ys.length : Int) := by omega
  have hxl : (xs.length : Int) ≤ 1073741824 := by omega
  have hyl : (ys.length : Int) ≤ 1073741824 := by omega
  have hnn : (0 : Int) ≤ (xs.length : Int) := by omega
  have h0 : (0 : Int) ≤ most := by omega
  have hwr : IntKind.i64.wrap (most - (xs.length : Int)) = most - (xs.length : Int) := IntWalk.i64_in _ (by omega)
  have hxn : xs.length ≤ 1073741824 := by omega
  have hyn : ys.length ≤ 1073741824 := by omega
  clear hfit hxl hyl hnn hxm h0 hm
  go_enter Try.func75, Try.ntmps75
  go_wp2_with fail
  go_region
  go_wp2_with (at_builtin; refine wpList_append_sl rfl (.tmp 8) (.tmp 9) 36 rfl 5 i5 (.int .u8 0) 1 1 Try.underlying36 hi5 hz0 hz1 hz2 rfl _ _ xs.length (bcells xs) rfl h.sl own _ ys.length (bcells ys) rfl hx (bcells_one _) ?_ ?_ ?_; (unfold maxLen; omega); omega; intro v1 w1 hs1 hc1; obtain ⟨x1, cap1, rfl⟩ := hs1.shape; (have bD1 := hc1.keeps h.blk (fun e => e.2 rfl)); (have q0 := (cell_of_block bD1 0).trans rfl); (have q1 := (cell_of_block bD1 1).trans rfl); (have g1 := free_of_block bD1 1))
  go_end0
  have hl : (xs ++ ys).length = xs.length + ys.length := by simp
  have hset : Chg (fun j => j = b) w1 (w1.setCell ⟨b, 1, none⟩ (.slice x1 (xs.length + ys.length) cap1)) := (Chg.refl _ _).setCell _ _ (fun _ => rfl)
  have hlo := h.lo
  refine ⟨rfl, ⟨x1, cap1, hlo, ?_, ?_⟩, (Chg.mono (own := fun j => M ≤ j ∧ j ≠ b) ((Chg.refl _ w).drew.trans hc1) (fun j _ e => e.1)).trans (hset.mono (fun j _ e => by omega))⟩
  · rw [block_set bD1, hl]; rfl
  · rw [hl, bcells_append]
    refine (hs1.chg hset (fun j e => ?_)).mono (fun j hj e => ?_)
    · rcases e with e | e
      · exact e.2
      · simp only [World.size_drew] at e; omega
    · rcases e with e | e
      · exact e
      · simp only [World.size_drew] at e; omega
end Go.Proofs.Ytjdkalimaldofaa
