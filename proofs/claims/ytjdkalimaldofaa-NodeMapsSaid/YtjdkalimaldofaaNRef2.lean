/-
  Lengths of keys and values: keyRight, valueRight, the document's lengths; entries and sizes of both.
-/
import Derived.Test.YtjdkalimaldofaaNRef1
namespace Go.Proofs.Ytjdkalimaldofaa
open Go.RowKit
set_option linter.unusedSimpArgs false
set_option linter.unusedVariables false

def keyOk (k : ByteArray) : Bool := decide (1 ≤ k.size) && decide (k.size ≤ 64)
def valOk (k : ByteArray) : Bool := decide (k.size ≤ 64)
theorem keyRight_any (w : World) (k : ByteArray) (hk : k.size ≤ 9223372036854775807) : Calls Try.prog 36 #[.string k] w fun e w' => e = .returned (.bool (keyOk k)) ∧ w = w' := by
  by_cases h1 : 1 ≤ k.size
  · by_cases h2 : k.size ≤ 64
    · have e : keyOk k = true := by simp [keyOk, h1, h2]
      rw [e]
      clear e
      have j1 : (1 : Int) ≤ (k.size : Int) := by omega
      have j2 : (k.size : Int) ≤ 64 := by omega
      go_enter Try.func36, Try.ntmps36
      go_wp2
      go_ret
      exact ⟨by simp, rfl⟩
    · have e : keyOk k = false := by simp [keyOk]; omega
      rw [e]
      clear e
      have j1 : (1 : Int) ≤ (k.size : Int) := by omega
      have j2 : ¬ (k.size : Int) ≤ 64 := by omega
      go_enter Try.func36, Try.ntmps36
      go_wp2
      go_ret
      exact ⟨by simp, rfl⟩
  · have e : keyOk k = false := by simp [keyOk]; omega
    rw [e]
    clear e
    have j1 : ¬ (1 : Int) ≤ (k.size : Int) := by omega
    go_enter Try.func36, Try.ntmps36
    go_wp2
    go_ret
    exact ⟨by simp, rfl⟩
theorem valueRight_any (w : World) (k : ByteArray) (hk : k.size ≤ 9223372036854775807) : Calls Try.prog 64 #[.string k] w fun e w' => e = .returned (.bool (valOk k)) ∧ w = w' := by
  go_enter Try.func64, Try.ntmps64
  go_wp2
  go_ret
  exact ⟨by simp [valOk]; omega, rfl⟩

def ND.lens (n : ND) : Bool := n.keys.all keyOk && n.values.all valOk
set_option maxHeartbeats 1000000 in
theorem lengths_any (w : World) (own : Nat → Prop) (v : Value) (n : ND) (hv : NodeAt w own v n) (hk : ∀ k ∈ n.keys, k.size ≤ 9223372036854775807) (hx : ∀ k ∈ n.values, k.size ≤ 9223372036854775807) :
    Calls Try.prog 51 #[v] w fun e w' => e = .returned (.bool n.lens) ∧ Bl w w' := by
  obtain ⟨ka, kc, va, vc, ia, ic, rfl, h⟩ := hv
  have kB : Bl w (w.alloc (.cells (nbox n ka kc va vc ia ic) 25)) := (Bl.refl w).alloc _
  have b1 : (w.alloc (.cells (nbox n ka kc va vc ia ic) 25)).heap[w.heap.size]? = some (.cells (nbox n ka kc va vc ia ic) 25 (0, 0)) := block_new _ _
  have hA := h.below kB
  obtain ⟨_, _, _, hmax⟩ := RdAt.shape h.keys
  obtain ⟨_, _, _, hmax2⟩ := RdAt.shape h.values
  unfold maxLen at hmax hmax2
  have Hk := Lib.hid hk
  have Hx := Lib.hid hx
  clear hk hx
  unfold nodeV
  go_enter Try.func51, Try.ntmps51
  go_wp2_with fail
  unfold nbox at kB b1 hA
  generalize w.alloc (.cells #[.bool n.leaf, .slice ka n.keys.length kc, .slice va n.values.length vc, .slice ia n.kids.length ic] 25) = W2 at *
  have x1 : W2.cell? ⟨w.heap.size, 1, none⟩ = some (.slice ka n.keys.length kc) := (cell_of_block b1 1).trans rfl
  have x2 : W2.cell? ⟨w.heap.size, 2, none⟩ = some (.slice va n.values.length vc) := (cell_of_block b1 2).trans rfl
  go_loopw [3] (fun i wr => ∃ k : Nat, k ≤ n.keys.length ∧ i = .int .i64 k ∧ wr = W2 ∧ Hid (∀ j (_ : j < n.keys.length), j < k → keyOk n.keys[j] = true)) (fun i _ => n.keys.length - (intOf i).toNat)
  case atStart => exact ⟨0, by omega, rfl, rfl, fun j _ hj => by omega⟩
  case round =>
    obtain ⟨k, hk, rfl, rfl, hpre⟩ := hrel
    have i0 : (0 : Int) ≤ (k : Int) := by omega
    by_cases hlt : k < n.keys.length
    · obtain ⟨g, off, rfl, _, _, hc⟩ := RdAt.get hA.keys (by omega)
      have c1 := hc k _ (tcells_get hlt)
      have hs := Hk.out _ (List.getElem_mem hlt)
      have i1 : (k : Int) < (n.keys.length : Int) := by omega
      clear hc
      cases hok : keyOk n.keys[k] with
      | true =>
        have hb : 1 ≤ n.keys[k].size ∧ n.keys[k].size ≤ 64 := by simpa [keyOk] using hok
        obtain ⟨q1, q2⟩ := hb
        have j1 : ¬ (n.keys[k].size : Int) < 1 := by omega
        have j2 : ¬ (64 : Int) < (n.keys[k].size : Int) := by omega
        have hpre' : Hid (∀ j (_ : j < n.keys.length), j < k + 1 → keyOk n.keys[j] = true) := by
          intro j hj1 hj2
          by_cases e : j = k
          · subst e; exact hok
          · exact hpre.out j hj1 (by omega)
        clear hok
        go_wp2
        go_roundw
        case rel => exact ⟨k + 1, by omega, by go_num, trivial, hpre'⟩
        case measure => simp [intOf]; omega
      | false =>
        have hb : n.keys[k].size < 1 ∨ 64 < n.keys[k].size := by simp [keyOk] at hok; omega
        have hf : Hid (n.lens = false) := by
          have : n.keys.all keyOk = false := List.all_eq_false.2 ⟨_, List.getElem_mem hlt, by simp [hok]⟩
          show _ = _
          simp [ND.lens, this]
        clear hok
        rcases hb with hb | hb
        · have j1 : (n.keys[k].size : Int) < 1 := by omega
          go_wp2
          go_ret
          exact ⟨by rw [hf.out]; rfl, kB⟩
        · have j1 : ¬ (n.keys[k].size : Int) < 1 := by omega
          have j2 : (64 : Int) < (n.keys[k].size : Int) := by omega
          go_wp2
          go_ret
          exact ⟨by rw [hf.out]; rfl, kB⟩
    · obtain rfl : k = n.keys.length := by omega
      have hall : n.keys.all keyOk = true := List.all_eq_true.2 (fun x hx => by
        obtain ⟨j, hj, rfl⟩ := List.mem_iff_getElem.1 hx
        exact hpre.out j hj hj)
      have HA := Lib.hid hall
      clear hall hpre
      go_wp2_with fail
      go_loopw [4] (fun i w2 => ∃ k : Nat, k ≤ n.values.length ∧ i = .int .i64 k ∧ w2 = wr ∧ Hid (∀ j (_ : j < n.values.length), j < k → valOk n.values[j] = true)) (fun i _ => n.values.length - (intOf i).toNat)
      case atStart => exact ⟨0, by omega, rfl, rfl, fun j _ hj => by omega⟩
      case round =>
        obtain ⟨k, hk, rfl, rfl, hpre⟩ := hrel
        have i0 : (0 : Int) ≤ (k : Int) := by omega
        by_cases hlt : k < n.values.length
        · obtain ⟨g, off, rfl, _, _, hc⟩ := RdAt.get hA.values (by omega)
          have c1 := hc k _ (tcells_get hlt)
          have hs := Hx.out _ (List.getElem_mem hlt)
          have i1 : (k : Int) < (n.values.length : Int) := by omega
          clear hc
          cases hok : valOk n.values[k] with
          | true =>
            have hb : n.values[k].size ≤ 64 := by simpa [valOk] using hok
            have j2 : ¬ (64 : Int) < (n.values[k].size : Int) := by omega
            have hpre' : Hid (∀ j (_ : j < n.values.length), j < k + 1 → valOk n.values[j] = true) := by
              intro j hj1 hj2
              by_cases e : j = k
              · subst e; exact hok
              · exact hpre.out j hj1 (by omega)
            clear hok
            go_wp2
            go_roundw
            case rel => exact ⟨k + 1, by omega, by go_num, trivial, hpre'⟩
            case measure => simp [intOf]; omega
          | false =>
            have hb : 64 < n.values[k].size := by simp [valOk] at hok; omega
            have hf : Hid (n.lens = false) := by
              have : n.values.all valOk = false := List.all_eq_false.2 ⟨_, List.getElem_mem hlt, by simp [hok]⟩
              show _ = _
              simp [ND.lens, this]
            clear hok
            have j2 : (64 : Int) < (n.values[k].size : Int) := by omega
            go_wp2
            go_ret
            exact ⟨by rw [hf.out]; rfl, kB⟩
        · obtain rfl : k = n.values.length := by omega
          have hf : Hid (n.lens = true) := by
            have : n.values.all valOk = true := List.all_eq_true.2 (fun x hx => by
              obtain ⟨j, hj, rfl⟩ := List.mem_iff_getElem.1 hx
              exact hpre.out j hj hj)
            show _ = _
            simp only [ND.lens, HA.out, this, Bool.and_self]
          clear hpre
          go_wp2
          go_ret
          exact ⟨by rw [hf.out]; rfl, kB⟩
end Go.Proofs.Ytjdkalimaldofaa
