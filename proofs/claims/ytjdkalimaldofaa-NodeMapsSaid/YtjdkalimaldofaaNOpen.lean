/-
  A node as an argument, opened: what a reading of it gives a walk; the reach bounds it.
-/
import Derived.Test.YtjdkalimaldofaaNSize2
import Derived.Test.YtjdkalimaldofaaNSplitA
import Derived.Test.YtjdkalimaldofaaRows
import Derived.ProofKit
import Derived.ChangeSlices
import Derived.Deep.Slices
import Derived.SizedLaws
namespace Go.Proofs.Ytjdkalimaldofaa
open Go.RowKit Go.ChangeShapes Go.WideShapes Go.ChangeAt Go.Deep
set_option linter.unusedSimpArgs false
set_option linter.unusedVariables false
section
variable {H : Type} {enc : TypeId × Value → H} {W : World}
abbrev Light (ws : List Nat) : Prop := ws.all (fun x => decide (x ≤ reachBytes)) = true
theorem light_append {a b : List Nat} (h : Light (a ++ b)) : Light a ∧ Light b := by
  unfold Light at *
  rw [List.all_append, Bool.and_eq_true] at h
  exact h
theorem light_all {P : Program} {e : TypeId} : ∀ {l : List (DataW H)}, Light (DataW.weightsAll P e l) → ∀ d ∈ l, Light (d.weights P e)
  | [], _, d, hd => by cases hd
  | x :: r, h, d, hd => by
    rw [DataW.weightsAll] at h
    obtain ⟨h1, h2⟩ := light_append h
    rcases List.mem_cons.1 hd with e | e
    · subst e; exact h1
    · exact light_all h2 d e
theorem cells3 : Try.prog.cellsOf 3 = 1 := by kernel_rfl
theorem cells4b : Try.prog.cellsOf 4 = 1 := by kernel_rfl
theorem cells9 : Try.prog.cellsOf 9 = 1 := by kernel_rfl
theorem cells22 : Try.prog.cellsOf 22 = 1 := by kernel_rfl
theorem cells23 : Try.prog.cellsOf 23 = 1 := by kernel_rfl
theorem cells25 : Try.prog.cellsOf 25 = 4 := by kernel_rfl
theorem bytes9 : Try.prog.bytesOf 9 = 16 := by kernel_rfl
theorem bytes3 : Try.prog.bytesOf 3 = 8 := by kernel_rfl
theorem texts_of_open {fuel : Nat} {v : Value} {x : DataW H × List MemPlace} (h : DataW.trod enc Try.prog W 0 (fun _ => true) true fuel 22 [v] = some x) (hz : Light (x.1.weights Try.prog 22)) :
    ∃ l : List ByteArray, TxtAt W (fun k => k < W.heap.size) v l ∧ l.length ≤ 8796093022208 ∧ ∀ s ∈ l, s.size ≤ 140737488355328 := by
  rcases open_slice Try.underlying22 h with ⟨hcs, rfl⟩ | ⟨a, len, cap, m, n, D, Pl, hcs, _, hl, hm, hmm, rfl, hall⟩
  · simp only [List.cons.injEq, and_true] at hcs
    subst hcs
    exact ⟨[], (SlAt.nil W _ 9 1 none).rd, by simp, by simp⟩
  · simp only [List.cons.injEq, and_true] at hcs
    subst hcs
    simp only [if_true] at hmm
    subst hmm
    rw [cells9] at hall
    simp only [DataW.weights, Try.underlying22, bytes9] at hz
    have hz1 : ((List.range len).map D).length * 16 ≤ reachBytes := by
      unfold Light at hz
      rw [List.all_cons, Bool.and_eq_true, decide_eq_true_eq] at hz
      have := hz.1
      exact Nat.le_trans (Nat.mul_le_mul_right 16 (Nat.le_add_right _ _)) this
    have hz2 := (light_append (show Light (DataW.weightsAll Try.prog 9 ((List.range len).map D) ++ DataW.weightsAll Try.prog 9 _) by
      unfold Light at hz ⊢
      rw [List.all_cons, Bool.and_eq_true] at hz
      exact hz.2)).1
    have hlen : len ≤ 8796093022208 := by simp only [List.length_map, List.length_range, reachBytes] at hz1; omega
    have each : ∀ i, i < len → ∃ s : ByteArray, W.cell? (a.add i) = some (.string s) ∧ s.size ≤ 140737488355328 := fun i hi => by
      obtain ⟨cs', h1, h2⟩ := hall i (by omega)
      obtain ⟨s, rfl, h3, _⟩ := DataW.trod_string Try.underlying9 h2
      obtain ⟨_, _, hc⟩ := World.cells?_some h1
      have hc0 := hc 0 (by decide)
      have hd := light_all hz2 (D i) (List.mem_map.2 ⟨i, List.mem_range.2 hi, rfl⟩)
      rw [show D i = (.lit (.string s.data.toList)) from congrArg Prod.fst h3] at hd
      have e : s.data.toList.length = s.size := by rw [Array.length_toList]; rfl
      have h5 : ([s.data.toList.length].all (fun x => decide (x ≤ reachBytes))) = true := hd
      rw [List.all_cons, List.all_nil, Bool.and_true, decide_eq_true_eq, e] at h5
      simp only [reachBytes] at h5
      refine ⟨s, ?_, by omega⟩
      obtain ⟨g, off, sp⟩ := a
      simpa [Addr.add] using hc0
    obtain ⟨f, hf⟩ := choose_lt each
    refine ⟨(List.range len).map f, ⟨by simp [tcells], some a, m, by simp, by simpa using hl, hm, fun hn => ?_⟩, by simpa using hlen, fun s hs => ?_⟩
    · have h0 : 0 < len := by simpa using hn
      have c0 := (hf 0 h0).1
      obtain ⟨g, off, sp⟩ := a
      have hsp : sp = none := by simpa [Addr.add] using World.cell?_spot c0
      subst hsp
      have hg : g < W.heap.size := by have := cell_lt c0; simpa [Addr.add] using this
      refine ⟨g, off, rfl, hg, hg, fun j u hj => ?_⟩
      have hj' : j < len := by
        rcases Nat.lt_or_ge j len with e | e
        · exact e
        · rw [List.getElem?_eq_none (by simp [tcells]; omega)] at hj; cases hj
      have := (hf j hj').1
      rw [add_lit'] at this
      rw [this, ← hj]
      simp [tcells, hj']
    · obtain ⟨i, hi, rfl⟩ := List.mem_map.1 hs
      exact (hf i (List.mem_range.1 hi)).2
theorem ints_of_open {fuel : Nat} {v : Value} {x : DataW H × List MemPlace} (h : DataW.trod enc Try.prog W 0 (fun _ => true) true fuel 23 [v] = some x) (hz : Light (x.1.weights Try.prog 23)) :
    ∃ l : List Int, IntsAt W (fun k => k < W.heap.size) v l ∧ l.length ≤ 17592186044416 ∧ ∀ n ∈ l, -9223372036854775808 ≤ n ∧ n ≤ 9223372036854775807 := by
  rcases open_slice Try.underlying23 h with ⟨hcs, rfl⟩ | ⟨a, len, cap, m, n, D, Pl, hcs, _, hl, hm, hmm, rfl, hall⟩
  · simp only [List.cons.injEq, and_true] at hcs
    subst hcs
    exact ⟨[], (SlAt.nil W _ 3 1 none).rd, by simp, by simp⟩
  · simp only [List.cons.injEq, and_true] at hcs
    subst hcs
    simp only [if_true] at hmm
    subst hmm
    rw [cells3] at hall
    simp only [DataW.weights, Try.underlying23, bytes3] at hz
    have hz1 : ((List.range len).map D).length * 8 ≤ reachBytes := by
      unfold Light at hz
      rw [List.all_cons, Bool.and_eq_true, decide_eq_true_eq] at hz
      have := hz.1
      exact Nat.le_trans (Nat.mul_le_mul_right 8 (Nat.le_add_right _ _)) this
    have hlen : len ≤ 17592186044416 := by simp only [List.length_map, List.length_range, reachBytes] at hz1; omega
    have each : ∀ i, i < len → ∃ s : Int, W.cell? (a.add i) = some (.int .i64 s) ∧ -9223372036854775808 ≤ s ∧ s ≤ 9223372036854775807 := fun i hi => by
      obtain ⟨cs', h1, h2⟩ := hall i (by omega)
      obtain ⟨s, rfl, _, hw⟩ := DataW.trod_int Try.underlying3 h2
      obtain ⟨_, _, hc⟩ := World.cells?_some h1
      have hc0 := hc 0 (by decide)
      simp [Lit.wf, IntKind.min, IntKind.max, IntKind.bits, IntKind.signed] at hw
      refine ⟨s, ?_, by omega⟩
      obtain ⟨g, off, sp⟩ := a
      simpa [Addr.add] using hc0
    obtain ⟨f, hf⟩ := choose_lt each
    refine ⟨(List.range len).map f, ⟨by simp [icells], some a, m, by simp, by simpa using hl, hm, fun hn => ?_⟩, by simpa using hlen, fun s hs => ?_⟩
    · have h0 : 0 < len := by simpa using hn
      have c0 := (hf 0 h0).1
      obtain ⟨g, off, sp⟩ := a
      have hsp : sp = none := by simpa [Addr.add] using World.cell?_spot c0
      subst hsp
      have hg : g < W.heap.size := by have := cell_lt c0; simpa [Addr.add] using this
      refine ⟨g, off, rfl, hg, hg, fun j u hj => ?_⟩
      have hj' : j < len := by
        rcases Nat.lt_or_ge j len with e | e
        · exact e
        · rw [List.getElem?_eq_none (by simp [icells]; omega)] at hj; cases hj
      have := (hf j hj').1
      rw [add_lit'] at this
      rw [this, ← hj]
      simp [icells, hj']
    · obtain ⟨i, hi, rfl⟩ := List.mem_map.1 hs
      exact (hf i (List.mem_range.1 hi)).2
set_option maxRecDepth 100000 in
theorem open_node {base : Nat} {v : Value} {d : DataW H} {p : List MemPlace} (hv : Value.okWide Try.prog W .any base 25 v) (h : DataW.Trod enc Try.prog W 0 (fun _ => true) true 25 v d p) (hz : Light (d.weights Try.prog 25)) :
    ∃ n : ND, NodeAt W (fun k => k < W.heap.size) v n ∧ n.Small ∧ n.Lens ∧ ∀ k ∈ n.kids, -9223372036854775808 ≤ k ∧ k ≤ 9223372036854775807 := by
  obtain ⟨fuel, h⟩ := h
  obtain ⟨cs, rfl, hsz⟩ := okWide_struct Try.underlying25 hv
  rw [cells25] at hsz
  obtain ⟨xs, n, _, hx, hl, hlen, hf⟩ := DataW.trod_struct Try.underlying25 h
  simp only [Prod.mk.injEq] at hx
  obtain ⟨rfl, _⟩ := hx
  have hc : (Value.agg cs).cells.toList = cs.toList := rfl
  rw [hc] at hf hl
  match hcs : cs.toList, (show cs.toList.length = 4 by simpa using hsz) with
  | [c0, c1, c2, c3], _ =>
    rw [hcs] at hf
    match xs, hlen with
    | [y0, y1, y2, y3], _ =>
      have t0 : DataW.trod enc Try.prog W 0 (fun _ => true) true n 4 [c0] = some y0 := by simpa [cells4b] using hf 0 _ rfl
      have t1 : DataW.trod enc Try.prog W 0 (fun _ => true) true n 22 [c1] = some y1 := by simpa [cells22] using hf 1 _ rfl
      have t2 : DataW.trod enc Try.prog W 0 (fun _ => true) true n 22 [c2] = some y2 := by simpa [cells22] using hf 2 _ rfl
      have t3 : DataW.trod enc Try.prog W 0 (fun _ => true) true n 23 [c3] = some y3 := by simpa [cells23] using hf 3 _ rfl
      simp only [DataW.weights, Try.underlying25] at hz
      obtain ⟨_, z0⟩ := light_append hz
      obtain ⟨z1, z0⟩ := light_append z0
      obtain ⟨z2, z0⟩ := light_append z0
      obtain ⟨z3, _⟩ := light_append z0
      obtain ⟨b, h0, _⟩ := DataW.trod_bool Try.underlying4 t0
      obtain ⟨K, a1, l1, m1⟩ := texts_of_open t1 z1
      obtain ⟨V, a2, l2, m2⟩ := texts_of_open t2 z2
      obtain ⟨I, a3, l3, m3⟩ := ints_of_open t3 z3
      simp only [List.cons.injEq, and_true] at h0
      subst h0
      obtain ⟨ka, kc, rfl, _⟩ := RdAt.shape a1
      obtain ⟨va, vc, rfl, _⟩ := RdAt.shape a2
      obtain ⟨ia, ic, rfl, _⟩ := RdAt.shape a3
      refine ⟨⟨b, K, V, I⟩, ⟨ka, kc, va, vc, ia, ic, ?_, a1, a2, a3⟩, ⟨l1, l2, l3⟩, ⟨m1, m2⟩, m3⟩
      unfold nodeV
      congr 1
      apply Array.ext'
      rw [hcs]
end
end Go.Proofs.Ytjdkalimaldofaa
