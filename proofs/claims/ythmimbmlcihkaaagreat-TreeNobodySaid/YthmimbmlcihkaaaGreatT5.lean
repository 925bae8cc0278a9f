/-
  A tree of one leaf: fits, Dirty, Scan.
-/
import Derived.Test.YthmimbmlcihkaaaGreatT4
namespace Go.Proofs.YthmimbmlcihkaaaGreat
open Go.RowKit
set_option linter.unusedSimpArgs false
set_option linter.unusedVariables false
set_option maxRecDepth 100000

section
variable {w : World} {tb kb : Nat} {size : Int} {rv : Value} {n : ND} {ps : List Nat} {sector : Int}
set_option maxHeartbeats 2000000 in
theorem fits_any (h : TreeIn w tb size rv kb) {b : Nat} (hk : KnotIn w b n ps sector) (sm : n.Small) (hl : n.lens = true) : Calls Tryz.prog 61 #[ptr tb, ptr b] w fun e w' => e = .returned (.bool (decide (n.psize ≤ size))) ∧ Bl w w' := by
  have hbl := hk.lt
  obtain ⟨ka, kc, va, vc, ia, ic, pa, pc, h1, h2, h3⟩ := hk
  have H2 := Lib.hid h2
  have htl : tb < w.heap.size := lt_of_block h
  have KN : Hid (∀ W, Bl w W → W.cell? ⟨tb, 0, none⟩ = some (.int .i64 size) ∧ W.cell? ⟨b, 0, none⟩ = some (.bool n.leaf) ∧ W.cell? ⟨b, 1, none⟩ = some (.slice ka n.keys.length kc) ∧ W.cell? ⟨b, 2, none⟩ = some (.slice va n.values.length vc) ∧ W.cell? ⟨b, 3, none⟩ = some (.slice ia n.kids.length ic)) := fun W k => by
    have hB := below_keeps k h1 hbl
    have hT := below_keeps k h htl
    refine ⟨?_, ?_, ?_, ?_, ?_⟩
    · rw [cell_of_block hT]; rfl
    all_goals (rw [cell_of_block hB]; rfl)
  clear h h1 h2 h3
  unfold ptr at *
  go_enter Tryz.func61, Tryz.ntmps61
  go_wp2_with fail
  go_region_held3 (fun W => W.cell? ⟨tb, 0, none⟩ = some (.int .i64 size) ∧ W.cell? ⟨b, 0, none⟩ = some (.bool n.leaf) ∧ W.cell? ⟨b, 1, none⟩ = some (.slice ka n.keys.length kc) ∧ W.cell? ⟨b, 2, none⟩ = some (.slice va n.values.length vc) ∧ W.cell? ⟨b, 3, none⟩ = some (.slice ia n.kids.length ic)) (first | exact KN.out _ (by ((repeat (first | with_reducible exact Bl.refl _ | with_reducible exact k3 | with_reducible refine Bl.alloc ?_ _ | with_reducible refine Bl.drew ?_)); done))) ((first | (go_at_call 66; refine (psize_any _ AllB _ n ⟨ka, kc, va, vc, ia, ic, rfl, H2.out.below (by ((repeat (first | with_reducible exact Bl.refl _ | with_reducible exact k3 | with_reducible refine Bl.alloc ?_ _ | with_reducible refine Bl.drew ?_)); done))⟩ sm hl).mono ?_; rintro e w3 ⟨rfl, k3r⟩; (have k3 : Bl w w3 := Bl.trans (by ((repeat (first | with_reducible exact Bl.refl _ | with_reducible exact k3 | with_reducible refine Bl.alloc ?_ _ | with_reducible refine Bl.drew ?_)); done)) k3r))))
  all_goals
    go_wp2_with fail
    go_ret
    exact ⟨rfl, (by ((repeat (first | with_reducible exact Bl.refl _ | with_reducible exact k3 | with_reducible refine Bl.alloc ?_ _ | with_reducible refine Bl.drew ?_)); done))⟩
theorem inc_any (w : World) (B : Nat) (x : Int) (kv : Value) (hB : w.heap[B]? = some (.cells #[.int .i64 x] 3 (0, 0))) (hx : 0 ≤ x ∧ x ≤ 1000000000000) : Calls Tryz.prog 32 #[kv, .pointer (some ⟨B, 0, none⟩)] w fun e w' => e = .returned (.tuple #[]) ∧ w' = w.setCell ⟨B, 0, none⟩ (.int .i64 (x + 1)) := by
  have c0 : w.cell? ⟨B, 0, none⟩ = some (.int .i64 x) := by rw [cell_of_block hB]; rfl
  have f0 := free_of_block hB 0
  have hw : IntKind.i64.wrap (x + 1) = x + 1 := IntWalk.i64_in _ (by omega)
  clear hB
  go_enter Tryz.func32, Tryz.ntmps32
  go_wp2_with fail
  go_end0
  exact ⟨rfl, rfl⟩
set_option maxHeartbeats 2000000 in
theorem each_leaf (w : World) (b B : Nat) (x : Int) (hk : KnotIn w b n [] (-1)) (hB : w.heap[B]? = some (.cells #[.int .i64 x] 3 (0, 0))) (hx : 0 ≤ x ∧ x ≤ 1000000000000) :
    Calls Tryz.prog 31 #[ptr b, .func (.func 32) #[] #[.pointer (some ⟨B, 0, none⟩)]] w fun e w' => e = .returned (.tuple #[]) ∧ w' = w.setCell ⟨B, 0, none⟩ (.int .i64 (x + 1)) := by
  obtain ⟨ka, kc, va, vc, ia, ic, pa, pc, h1, h2, h3⟩ := hk
  have c5 : w.cell? ⟨b, 5, none⟩ = some (.int .i64 (-1)) := by rw [cell_of_block h1]; rfl
  have c4 : w.cell? ⟨b, 4, none⟩ = some (.slice pa 0 pc) := by rw [cell_of_block h1]; rfl
  have HB := Lib.hid hB
  clear h1 h2 h3 hB
  unfold ptr at *
  go_enter Tryz.func31, Tryz.ntmps31
  go_wp2_with fail
  go_loopw [5, 16] (fun _ i wr => i = .int .i64 0 ∧ wr = w) (fun _ _ _ => 0)
  case atStart => exact ⟨rfl, rfl⟩
  case round =>
    obtain ⟨rfl, rfl⟩ := hrel
    go_wp2_with fail
    refine (inc_any _ B x _ HB.out hx).mono ?_
    rintro e w2 ⟨rfl, rfl⟩
    go_wp2_with fail
    go_end0
    exact ⟨rfl, rfl⟩
set_option maxHeartbeats 2000000 in
theorem dirty_leaf (h : TreeIn w tb size rv kb) (hk : KnotIn w kb n [] (-1)) : Calls Tryz.prog 12 #[ptr tb] w fun e w' => e = .returned (.int .i64 1) ∧ Bl w w' := by
  have HK := Lib.hid hk
  have HT := Lib.hid h
  have htl : tb < w.heap.size := lt_of_block h
  unfold ptr at *
  clear h hk
  go_enter Tryz.func12, Tryz.ntmps12
  go_wp2_with fail
  refine (made_any HT.out).mono ?_
  rintro e w1 ⟨rfl, rfl⟩
  have ka : Bl w1 (w1.alloc (.cells #[.int .i64 0] 3)) := (Bl.refl w1).alloc _
  have hB : (w1.alloc (.cells #[.int .i64 0] 3)).heap[w1.heap.size]? = some (.cells #[.int .i64 0] 3 (0, 0)) := block_new _ _
  obtain ⟨-, -, c2⟩ := (HT.out.below ka).cells
  unfold ptr at c2
  go_wp2_with fail
  refine (each_leaf _ kb w1.heap.size 0 (HK.out.below ka) hB (by omega)).mono ?_
  rintro e w2 ⟨rfl, rfl⟩
  have hlt : w1.heap.size < (w1.alloc (.cells #[.int .i64 0] 3)).heap.size := lt_of_block hB
  have k2 : Bl w1 ((w1.alloc (.cells #[.int .i64 0] 3)).setCell ⟨w1.heap.size, 0, none⟩ (.int .i64 1)) := ka.setCell (Nat.le_refl _) _
  go_wp2_with fail
  go_ret
  exact ⟨rfl, (Bl.refl _).alloc _⟩
theorem scan_any (w : World) (v : Value) (hv : v = .pointer none ∨ ∃ a, v = .pointer (some a)) (x y : ByteArray) : Calls Tryz.prog 22 #[v, .string x, .string y] w fun e w' => e = .returned (.func (.func 46) #[] #[ptr w.heap.size, ptr (w.heap.size + 1), ptr (w.heap.size + 2)]) ∧ w' = ((w.alloc (.cells #[v] 26)).alloc (.cells #[.string x] 9)).alloc (.cells #[.string y] 9) := by
  unfold ptr
  rcases hv with rfl | ⟨a, rfl⟩
  all_goals
    go_enter Tryz.func22, Tryz.ntmps22
    go_wp2_with fail
    go_ret
    exact ⟨rfl, rfl⟩
end
end Go.Proofs.YthmimbmlcihkaaaGreat
