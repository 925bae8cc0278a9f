/-
  Entries and sizes, the program's.
-/
import Derived.Test.YthmimbmlcihkaaaGreatNCheck
namespace Go.Proofs.YthmimbmlcihkaaaGreat
open Go.RowKit
set_option linter.unusedSimpArgs false
set_option linter.unusedVariables false
set_option maxRecDepth 100000

/-- the program's entry: how many bytes the i-th has -/
def ND.pentry (n : ND) (i : Nat) : Int := if n.leaf then 2 + sz n.keys i + sz n.values i else 1 + sz n.keys i + (if i + 1 < n.kids.length then 4 else 0)
set_option maxHeartbeats 1000000 in
theorem pentry_any (w : World) (own : Nat → Prop) (v : Value) (n : ND) (hv : NodeAt w own v n) (ln : n.Lens) (hs : n.Small) (i : Nat) (hi : i < n.keys.length) :
    Calls Tryz.prog 89 #[v, .int .i64 i] w fun e w' => e = .returned (.int .i64 (n.pentry i)) ∧ Bl w w' := by
  obtain ⟨ka, kc, va, vc, ia, ic, rfl, h⟩ := hv
  have kB : Bl w (w.alloc (.cells (nbox n ka kc va vc ia ic) 61)) := (Bl.refl w).alloc _
  have b1 : (w.alloc (.cells (nbox n ka kc va vc ia ic) 61)).heap[w.heap.size]? = some (.cells (nbox n ka kc va vc ia ic) 61 (0, 0)) := block_new _ _
  have hA := h.below kB
  obtain ⟨_, _, _, hmax⟩ := RdAt.shape h.keys
  obtain ⟨_, _, _, hmax2⟩ := RdAt.shape h.values
  obtain ⟨_, _, _, hmax3⟩ := RdAt.shape h.kids
  unfold maxLen at hmax hmax2 hmax3
  have hk30 := hs.keys
  obtain ⟨g, off, hg, _, _, hc⟩ := RdAt.get hA.keys (by omega)
  have c1 := hc i _ (tcells_get hi)
  clear hc
  have s1 := ln.keys _ (List.getElem_mem hi)
  have z1 := sz_get hi
  have i0 : (0 : Int) ≤ (i : Int) := by omega
  have i1 : (i : Int) < (n.keys.length : Int) := by omega
  subst hg
  cases hl : n.leaf with
  | false =>
    by_cases hv : i + 1 < n.kids.length
    · have i2 : (i : Int) + 1 < (n.kids.length : Int) := by omega
      have hr : n.pentry i = 1 + (n.keys[i].size : Int) + 4 := by simp [ND.pentry, hl, z1, hv]
      have HR := Lib.hid hr
      clear hr z1
      clear hv
      unfold nodeV
      rw [hl]
      unfold nbox at kB b1 hA c1
      rw [hl] at kB b1 hA c1
      clear hl
      go_enter Tryz.func89, Tryz.ntmps89
      go_wp2
      go_ret
      exact ⟨by rw [HR.out]; rfl, kB⟩
    · have i2 : ¬ (i : Int) + 1 < (n.kids.length : Int) := by omega
      have hr : n.pentry i = 1 + (n.keys[i].size : Int) := by simp [ND.pentry, hl, z1, hv]
      have HR := Lib.hid hr
      clear hr z1
      clear hv
      unfold nodeV
      rw [hl]
      unfold nbox at kB b1 hA c1
      rw [hl] at kB b1 hA c1
      clear hl
      go_enter Tryz.func89, Tryz.ntmps89
      go_wp2
      go_ret
      exact ⟨by rw [HR.out]; rfl, kB⟩
  | true =>
    by_cases hv : i < n.values.length
    · obtain ⟨g2, off2, hg2, _, _, hc2⟩ := RdAt.get hA.values (by omega)
      have c2 := hc2 i _ (tcells_get hv)
      clear hc2
      have s2 := ln.values _ (List.getElem_mem hv)
      have i2 : (i : Int) < (n.values.length : Int) := by omega
      have hr : n.pentry i = 2 + (n.keys[i].size : Int) + (n.values[i].size : Int) := by simp [ND.pentry, hl, z1, sz_get hv]
      subst hg2
      have HR := Lib.hid hr
      clear hr z1
      unfold nodeV
      rw [hl]
      unfold nbox at kB b1 hA c1 c2
      rw [hl] at kB b1 hA c1 c2
      clear hl
      go_enter Tryz.func89, Tryz.ntmps89
      go_wp2
      go_ret
      exact ⟨by rw [HR.out]; rfl, kB⟩
    · have i2 : ¬ (i : Int) < (n.values.length : Int) := by omega
      have hr : n.pentry i = 2 + (n.keys[i].size : Int) := by simp [ND.pentry, hl, z1, sz_off (show n.values.length ≤ i by omega)]
      have HR := Lib.hid hr
      clear hr z1
      unfold nodeV
      rw [hl]
      unfold nbox at kB b1 hA c1
      rw [hl] at kB b1 hA c1
      clear hl
      go_enter Tryz.func89, Tryz.ntmps89
      go_wp2
      go_ret
      exact ⟨by rw [HR.out]; rfl, kB⟩
end Go.Proofs.YthmimbmlcihkaaaGreat
