/-
  Entries and sizes, the program's and the document's.
-/
import Derived.Test.YtjdkalimaldofaaNRef2
namespace Go.Proofs.Ytjdkalimaldofaa
open Go.RowKit
set_option linter.unusedSimpArgs false
set_option linter.unusedVariables false

def sz (l : List ByteArray) (i : Nat) : Int := ((l[i]?.map ByteArray.size).getD 0 : Nat)
theorem sz_get {l : List ByteArray} {i : Nat} (h : i < l.length) : sz l i = l[i].size := by simp [sz, h]
theorem sz_off {l : List ByteArray} {i : Nat} (h : l.length ≤ i) : sz l i = 0 := by simp [sz, h]
theorem sz_pos (l : List ByteArray) (i : Nat) : 0 ≤ sz l i := by unfold sz; omega
/-- the document's entry: how many bytes the i-th has -/
def ND.rentry (n : ND) (i : Nat) : Int := if n.leaf then 2 + sz n.keys i + sz n.values i else 1 + sz n.keys i + 4
/-- no text is longer than the machine has room for -/
structure ND.Lens (n : ND) : Prop where
  keys : ∀ k ∈ n.keys, k.size ≤ 140737488355328
  values : ∀ k ∈ n.values, k.size ≤ 140737488355328
set_option maxHeartbeats 1000000 in
theorem rentry_any (w : World) (own : Nat → Prop) (v : Value) (n : ND) (hv : NodeAt w own v n) (ln : n.Lens) (i : Nat) (hi : i < n.keys.length) :
    Calls Try.prog 34 #[v, .int .i64 i] w fun e w' => e = .returned (.int .i64 (n.rentry i)) ∧ Bl w w' := by
  obtain ⟨ka, kc, va, vc, ia, ic, rfl, h⟩ := hv
  have kB : Bl w (w.alloc (.cells (nbox n ka kc va vc ia ic) 25)) := (Bl.refl w).alloc _
  have b1 : (w.alloc (.cells (nbox n ka kc va vc ia ic) 25)).heap[w.heap.size]? = some (.cells (nbox n ka kc va vc ia ic) 25 (0, 0)) := block_new _ _
  have hA := h.below kB
  obtain ⟨_, _, _, hmax⟩ := RdAt.shape h.keys
  obtain ⟨_, _, _, hmax2⟩ := RdAt.shape h.values
  unfold maxLen at hmax hmax2
  obtain ⟨g, off, hg, _, _, hc⟩ := RdAt.get hA.keys (by omega)
  have c1 := hc i _ (tcells_get hi)
  clear hc
  have s1 := ln.keys _ (List.getElem_mem hi)
  have z1 := sz_get hi
  have i0 : (0 : Int) ≤ (i : Int) := by omega
  have i1 : (i : Int) < (n.keys.length : Int) := by omega
  subst hg
  cases hl : n.leaf with
  | false =>
    have hr : n.rentry i = 1 + (n.keys[i].size : Int) + 4 := by simp [ND.rentry, hl, z1]
    have HR := Lib.hid hr
    clear hr z1
    unfold nodeV
    rw [hl]
    unfold nbox at kB b1 hA c1
    rw [hl] at kB b1 hA c1
    clear hl
    go_enter Try.func34, Try.ntmps34
    go_wp2
    go_ret
    exact ⟨by rw [HR.out]; rfl, kB⟩
  | true =>
    by_cases hv : i < n.values.length
    · obtain ⟨g2, off2, hg2, _, _, hc2⟩ := RdAt.get hA.values (by omega)
      have c2 := hc2 i _ (tcells_get hv)
      clear hc2
      have s2 := ln.values _ (List.getElem_mem hv)
      have i2 : (i : Int) < (n.values.length : Int) := by omega
      have hr : n.rentry i = 2 + (n.keys[i].size : Int) + (n.values[i].size : Int) := by simp [ND.rentry, hl, z1, sz_get hv]
      have HR := Lib.hid hr
      clear hr z1
      subst hg2
      unfold nodeV
      rw [hl]
      unfold nbox at kB b1 hA c1 c2
      rw [hl] at kB b1 hA c1 c2
      clear hl
      go_enter Try.func34, Try.ntmps34
      go_wp2
      go_ret
      exact ⟨by rw [HR.out]; rfl, kB⟩
    · have i2 : ¬ (i : Int) < (n.values.length : Int) := by omega
      have hr : n.rentry i = 2 + (n.keys[i].size : Int) := by simp [ND.rentry, hl, z1, sz_off (show n.values.length ≤ i by omega)]
      have HR := Lib.hid hr
      clear hr z1
      unfold nodeV
      rw [hl]
      unfold nbox at kB b1 hA c1
      rw [hl] at kB b1 hA c1
      clear hl
      go_enter Try.func34, Try.ntmps34
      go_wp2
      go_ret
      exact ⟨by rw [HR.out]; rfl, kB⟩
end Go.Proofs.Ytjdkalimaldofaa
