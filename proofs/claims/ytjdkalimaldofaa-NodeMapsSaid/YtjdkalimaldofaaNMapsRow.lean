/-
  NodeMaps: its argument opened; the walk as the row asks for it.
-/
import Derived.Test.YtjdkalimaldofaaNLaw5
import Derived.Test.YtjdkalimaldofaaNOpen
namespace Go.Proofs.Ytjdkalimaldofaa
open Go.RowKit Go.ChangeShapes Go.WideShapes Go.ChangeAt Go.Deep
set_option linter.unusedSimpArgs false
set_option linter.unusedVariables false
section
variable {H : Type} {enc : TypeId × Value → H} {W : World}
theorem cells53 : Try.prog.cellsOf 53 = 3 := by kernel_rfl
theorem bytes53 : Try.prog.bytesOf 53 = 40 := by kernel_rfl
def OpCells (w : World) (g p : Nat) (o : OpE) : Prop := w.cell? ⟨g, p, none⟩ = some (.string o.key) ∧ w.cell? ⟨g, p + 1, none⟩ = some (.string o.value) ∧ w.cell? ⟨g, p + 2, none⟩ = some (.bool o.gone)
instance : Inhabited OpE := ⟨⟨⟨#[]⟩, ⟨#[]⟩, false⟩⟩
def OpE.Fine (o : OpE) : Prop := o.key.size ≤ 9223372036854775807 ∧ o.value.size ≤ 9223372036854775807
set_option maxRecDepth 100000 in
theorem ope_of_open {fuel : Nat} {cs : List Value} {g p : Nat} {x : DataW H × List MemPlace} (hcs : W.cells? 0 ⟨g, p, none⟩ 3 = some cs) (h : DataW.trod enc Try.prog W 0 (fun _ => true) true fuel 53 cs = some x) :
    ∃ o : OpE, OpCells W g p o ∧ o.Fine := by
  obtain ⟨xs, n, _, rfl, hl, hlen, hf⟩ := DataW.trod_struct Try.underlying53 h
  obtain ⟨_, hl5, hc⟩ := World.cells?_some hcs
  match cs, hl5 with
  | [c0, c1, c2], _ =>
    match xs, hlen with
    | [y0, y1, y2], _ =>
      have t0 : DataW.trod enc Try.prog W 0 (fun _ => true) true n 9 [c0] = some y0 := by simpa [cells9] using hf 0 _ rfl
      have t1 : DataW.trod enc Try.prog W 0 (fun _ => true) true n 9 [c1] = some y1 := by simpa [cells9] using hf 1 _ rfl
      have t2 : DataW.trod enc Try.prog W 0 (fun _ => true) true n 4 [c2] = some y2 := by simpa [cells4b] using hf 2 _ rfl
      obtain ⟨s0, h0, _, w0⟩ := DataW.trod_string Try.underlying9 t0
      obtain ⟨s1, h1, _, w1⟩ := DataW.trod_string Try.underlying9 t1
      obtain ⟨b2, h2, _⟩ := DataW.trod_bool Try.underlying4 t2
      simp only [List.cons.injEq, and_true] at h0 h1 h2
      subst h0 h1 h2
      have e := fun i hi => by have := hc i hi; rw [add_lit'] at this; exact this
      unfold maxLen at w0 w1
      exact ⟨⟨s0, s1, b2⟩, ⟨(e 0 (by omega)).trans rfl, (e 1 (by omega)).trans rfl, (e 2 (by omega)).trans rfl⟩, by unfold OpE.Fine; simp only; omega⟩
set_option maxRecDepth 100000 in
theorem open_opsE {base : Nat} {v : Value} {d : DataW H} {p : List MemPlace} (hv : Value.okWide Try.prog W .any base 51 v) (h : DataW.Trod enc Try.prog W 0 (fun _ => true) true 51 v d p) (hz : Light (d.weights Try.prog 51)) :
    ∃ l : List OpE, ∃ a c, v = .slice a l.length c ∧ l.length ≤ 8796093022206 ∧ (0 < l.length → ∃ g off, a = some ⟨g, off, none⟩ ∧ OpsIn W g off l) ∧ ∀ o ∈ l, o.key.size ≤ 9223372036854775807 ∧ o.value.size ≤ 9223372036854775807 := by
  obtain ⟨fuel, h⟩ := h
  obtain ⟨a', len', cap', rfl⟩ := okWide_slice Try.underlying51 hv
  have hcc : (Value.slice a' len' cap').cells.toList = [.slice a' len' cap'] := rfl
  rw [hcc] at h
  rcases open_slice Try.underlying51 h with ⟨hcs, hx⟩ | ⟨a, len, cap, m, n, D, Pl, hcs, _, hl, hm, hmm, hx, hall⟩
  · simp only [List.cons.injEq, and_true] at hcs
    injection hcs with q1 q2 q3
    subst q1 q2 q3
    exact ⟨[], none, 0, rfl, by simp, fun h => by simp at h, fun o ho => by cases ho⟩
  · simp only [List.cons.injEq, and_true] at hcs
    injection hcs with q1 q2 q3
    subst q1 q2 q3
    simp only [if_true] at hmm
    subst hmm
    have hd : d = _ := congrArg Prod.fst hx
    rw [hd] at hz
    simp only [DataW.weights, Try.underlying51, bytes53] at hz
    have hz1 : ((List.range len').map D).length * 40 ≤ reachBytes := by
      unfold Light at hz
      rw [List.all_cons, Bool.and_eq_true, decide_eq_true_eq] at hz
      have := hz.1
      exact Nat.le_trans (Nat.mul_le_mul_right 40 (Nat.le_add_right _ _)) this
    have hlen : len' ≤ 8796093022206 := by simp only [List.length_map, List.length_range, reachBytes] at hz1; omega
    rw [cells53] at hall
    by_cases h0 : 0 < len'
    · have hsp : a.spot = none := by
        obtain ⟨cs', h1, _⟩ := hall 0 (by omega)
        obtain ⟨_, hl5, hc⟩ := World.cells?_some h1
        have := hc 0 (by omega)
        rw [List.getElem?_eq_getElem (by omega)] at this
        simpa [Addr.add] using World.cell?_spot this
      obtain ⟨g, off, sp⟩ := a
      simp only at hsp
      subst hsp
      have each : ∀ i, i < len' → ∃ o : OpE, OpCells W g (off + i * 3) o ∧ o.Fine := fun i hi => by
        obtain ⟨cs', h1, h2⟩ := hall i (by omega)
        rw [add_lit'] at h1
        exact ope_of_open h1 h2
      obtain ⟨f, hf⟩ := choose_lt each
      have hg : g < W.heap.size := by have := cell_lt (hf 0 h0).1.1; exact this
      refine ⟨(List.range len').map f, some ⟨g, off, none⟩, m, by simp, by simpa using hlen, fun _ => ⟨g, off, rfl, hg, fun i hi => ?_⟩, fun o ho => ?_⟩
      · simp only [List.length_map, List.length_range] at hi
        have hq := (hf i hi).1
        unfold OpCells at hq
        simpa using hq
      · obtain ⟨i, hi, rfl⟩ := List.mem_map.1 ho
        exact (hf i (List.mem_range.1 hi)).2
    · obtain rfl : len' = 0 := by omega
      exact ⟨[], some a, m, rfl, by simp, fun h => by simp at h, fun o ho => by cases ho⟩
end
theorem maps_gen (W : World) (v : Value) (l : List OpE) (h : ∃ a c, v = .slice a l.length c ∧ l.length ≤ 8796093022206 ∧ (0 < l.length → ∃ g off, a = some ⟨g, off, none⟩ ∧ OpsIn W g off l) ∧ ∀ o ∈ l, o.key.size ≤ 9223372036854775807 ∧ o.value.size ≤ 9223372036854775807) :
    Calls Try.prog 7 #[v] W fun e w' => e = .returned (.bool true) ∧ Below W.heap.size W w' := by
  obtain ⟨a, c, hv, h1, h2, h3⟩ := h
  exact maps_any W v l c a hv h1 h2 h3
end Go.Proofs.Ytjdkalimaldofaa
