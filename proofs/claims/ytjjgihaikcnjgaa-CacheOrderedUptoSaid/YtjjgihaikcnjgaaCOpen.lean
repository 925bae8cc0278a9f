/-
  A script as an argument, opened.
-/
import Derived.Test.YtjjgihaikcnjgaaCHoldsP
import Derived.Test.YtjjgihaikcnjgaaCAlone
import Derived.ProofKit
import Derived.ChangeSlices
import Derived.Deep.Slices
namespace Go.Proofs.Ytjjgihaikcnjgaa
open Go.RowKit Go.ChangeShapes Go.WideShapes Go.ChangeAt Go.Deep
set_option linter.unusedSimpArgs false
set_option linter.unusedVariables false
set_option maxRecDepth 100000

structure Scr where
  size : Int
  sectors : Int
  frames : Int
  ops : List OpC
instance : Inhabited OpC := ⟨⟨0, 0, 0, 0, 0⟩⟩
def OpCellsC (w : World) (g p : Nat) (o : OpC) : Prop :=
  w.cell? ⟨g, p, none⟩ = some (.int .i64 o.kind) ∧ w.cell? ⟨g, p + 1, none⟩ = some (.int .i64 o.sector) ∧ w.cell? ⟨g, p + 2, none⟩ = some (.int .u8 o.fill) ∧ w.cell? ⟨g, p + 3, none⟩ = some (.int .i64 o.short) ∧ w.cell? ⟨g, p + 4, none⟩ = some (.int .u64 o.order)
def ScrAt (w : World) (v : Value) (x : Scr) : Prop :=
  ∃ a cap, v = scr x.size x.sectors x.frames (.slice a x.ops.length cap) ∧ x.ops.length ≤ 174762 ∧ (∀ o ∈ x.ops, o.Fine) ∧
    (0 < x.ops.length → ∃ g off, a = some ⟨g, off, none⟩ ∧ g < w.heap.size ∧ ∀ i (h : i < x.ops.length), OpCellsC w g (off + i * 5) x.ops[i])
section
variable {H : Type} {enc : TypeId × Value → H} {W : World}
theorem cells31 : Try.prog.cellsOf 31 = 5 := by kernel_rfl
theorem cells3 : Try.prog.cellsOf 3 = 1 := by kernel_rfl
theorem cells5 : Try.prog.cellsOf 5 = 1 := by kernel_rfl
theorem cells29 : Try.prog.cellsOf 29 = 1 := by kernel_rfl
theorem cells22 : Try.prog.cellsOf 22 = 1 := by kernel_rfl
theorem cells24 : Try.prog.cellsOf 24 = 4 := by kernel_rfl
theorem bulk_pos (d : DataW H) : 1 ≤ Rows.uptoBulk d := by
  cases d with
  | lit x => cases x <;> simp [Rows.uptoBulk]
  | _ => simp [Rows.uptoBulk]
theorem bulkAll_six : ∀ ds : List (DataW H), (∀ d ∈ ds, 6 ≤ Rows.uptoBulk d) → ds.length * 6 ≤ Rows.uptoBulkAll ds
  | [], _ => Nat.zero_le _
  | d :: r, h => by
    have h1 := h d (by simp)
    have h2 := bulkAll_six r (fun x hx => h x (by simp [hx]))
    simp only [List.length_cons, Rows.uptoBulkAll]; omega
theorem opc_of_open {fuel : Nat} {cs : List Value} {g p : Nat} {x : DataW H × List MemPlace} (hcs : W.cells? 0 ⟨g, p, none⟩ 5 = some cs) (h : DataW.trod enc Try.prog W 0 (fun _ => true) true fuel 31 cs = some x) :
    (∃ o : OpC, OpCellsC W g p o ∧ o.Fine) ∧ 6 ≤ Rows.uptoBulk x.1 := by
  obtain ⟨xs, n, _, rfl, hl, hlen, hf⟩ := DataW.trod_struct Try.underlying31 h
  obtain ⟨_, hl5, hc⟩ := World.cells?_some hcs
  match cs, hl5 with
  | [c0, c1, c2, c3, c4], _ =>
    match xs, hlen with
    | [y0, y1, y2, y3, y4], _ =>
      have t0 : DataW.trod enc Try.prog W 0 (fun _ => true) true n 3 [c0] = some y0 := by simpa [cells3] using hf 0 _ rfl
      have t1 : DataW.trod enc Try.prog W 0 (fun _ => true) true n 3 [c1] = some y1 := by simpa [cells3] using hf 1 _ rfl
      have t2 : DataW.trod enc Try.prog W 0 (fun _ => true) true n 5 [c2] = some y2 := by simpa [cells3, cells5] using hf 2 _ rfl
      have t3 : DataW.trod enc Try.prog W 0 (fun _ => true) true n 3 [c3] = some y3 := by simpa [cells3, cells5] using hf 3 _ rfl
      have t4 : DataW.trod enc Try.prog W 0 (fun _ => true) true n 29 [c4] = some y4 := by simpa [cells3, cells5, cells29] using hf 4 _ rfl
      obtain ⟨N0, h0, e0, w0⟩ := DataW.trod_int Try.underlying3 t0
      obtain ⟨N1, h1, e1, w1⟩ := DataW.trod_int Try.underlying3 t1
      obtain ⟨N2, h2, e2, w2⟩ := DataW.trod_int Try.underlying5 t2
      obtain ⟨N3, h3, e3, w3⟩ := DataW.trod_int Try.underlying3 t3
      obtain ⟨N4, h4, e4, w4⟩ := DataW.trod_int Try.underlying29 t4
      simp only [List.cons.injEq, and_true] at h0 h1 h2 h3 h4
      subst h0 h1 h2 h3 h4
      have b0 := bulk_pos y0.1
      have b1 := bulk_pos y1.1
      have b2 := bulk_pos y2.1
      have b3 := bulk_pos y3.1
      have b4 := bulk_pos y4.1
      simp [Lit.wf, IntKind.min, IntKind.max, IntKind.bits, IntKind.signed] at w1 w2 w3 w4
      have e := fun i hi => by have := hc i hi; rw [add_lit'] at this; exact this
      refine ⟨⟨⟨N0, N1, N2, N3, N4⟩, ⟨e 0 (by omega), e 1 (by omega), e 2 (by omega), e 3 (by omega), e 4 (by omega)⟩, ⟨by simp only; omega, by simp only; omega, by simp only; omega, by simp only; omega⟩⟩, ?_⟩
      simp only [List.map_cons, List.map_nil, Rows.uptoBulk, Rows.uptoBulkAll]
      omega
theorem open_opsC {fuel : Nat} {v : Value} {x : DataW H × List MemPlace} (h : DataW.trod enc Try.prog W 0 (fun _ => true) true fuel 22 [v] = some x) (hb : Rows.uptoBulk x.1 ≤ 1048576) :
    ∃ (l : List OpC) (a : Option Addr) (cap : Nat), v = .slice a l.length cap ∧ l.length ≤ 174762 ∧ (∀ o ∈ l, o.Fine) ∧ (0 < l.length → ∃ g off, a = some ⟨g, off, none⟩ ∧ g < W.heap.size ∧ ∀ i (h : i < l.length), OpCellsC W g (off + i * 5) l[i]) := by
  rcases open_slice Try.underlying22 h with ⟨hcs, rfl⟩ | ⟨a, len, cap, m, n, D, Pl, hcs, _, hl, hm, hmm, rfl, hall⟩
  · simp only [List.cons.injEq, and_true] at hcs
    subst hcs
    exact ⟨[], none, 0, rfl, by simp, by simp, fun h => by simp at h⟩
  · simp only [List.cons.injEq, and_true] at hcs
    subst hcs
    simp only [if_true] at hmm
    subst hmm
    rw [cells31] at hall
    by_cases h0 : 0 < len
    · have hsp : a.spot = none := by
        obtain ⟨cs', h1, _⟩ := hall 0 (by omega)
        obtain ⟨_, hl5, hc⟩ := World.cells?_some h1
        have := hc 0 (by omega)
        rw [List.getElem?_eq_getElem (by omega)] at this
        simpa [Addr.add] using World.cell?_spot this
      obtain ⟨g, off, sp⟩ := a
      simp only at hsp
      subst hsp
      have each : ∀ i, i < len → (∃ o : OpC, OpCellsC W g (off + i * 5) o ∧ o.Fine) ∧ 6 ≤ Rows.uptoBulk (D i) := fun i hi => by
        obtain ⟨cs', h1, h2⟩ := hall i (by omega)
        rw [add_lit'] at h1
        exact opc_of_open h1 h2
      obtain ⟨f, hf⟩ := choose_lt (fun i hi => (each i hi).1)
      have hg : g < W.heap.size := by have := cell_lt (hf 0 h0).1.1; exact this
      have hlb : len ≤ 174762 := by
        simp only [Rows.uptoBulk] at hb
        have := bulkAll_six ((List.range len).map D) (fun d hd => by
          obtain ⟨i, hi, rfl⟩ := List.mem_map.1 hd
          exact (each i (by simpa using hi)).2)
        simp only [List.length_map, List.length_range] at this
        omega
      refine ⟨(List.range len).map f, some ⟨g, off, none⟩, m, by simp, by simpa using hlb, fun o ho => ?_, fun _ => ⟨g, off, rfl, hg, fun i hi => ?_⟩⟩
      · obtain ⟨i, hi, rfl⟩ := List.mem_map.1 ho
        exact (hf i (by simpa using hi)).2
      · simp only [List.length_map, List.length_range] at hi
        simpa using (hf i hi).1
    · obtain rfl : len = 0 := by omega
      exact ⟨[], some a, m, rfl, by simp, by simp, fun h => by simp at h⟩
theorem open_script {base : Nat} {v : Value} {d : DataW H} {p : List MemPlace} (hv : Value.okWide Try.prog W .any base 24 v) (h : DataW.Trod enc Try.prog W 0 (fun _ => true) true 24 v d p) (hb : Rows.uptoBulk d ≤ 1048576) :
    ∃ x : Scr, ScrAt W v x := by
  obtain ⟨fuel, h⟩ := h
  obtain ⟨cs, rfl, hsz⟩ := okWide_struct Try.underlying24 hv
  rw [cells24] at hsz
  obtain ⟨xs, n, _, hx, hl, hlen, hf⟩ := DataW.trod_struct Try.underlying24 h
  simp only [Prod.mk.injEq] at hx
  obtain ⟨rfl, _⟩ := hx
  have hc : (Value.agg cs).cells.toList = cs.toList := rfl
  rw [hc] at hf hl
  match hcs : cs.toList, (show cs.toList.length = 4 by simpa using hsz) with
  | [c0, c1, c2, c3], _ =>
    rw [hcs] at hf
    match xs, hlen with
    | [y0, y1, y2, y3], _ =>
      have t0 : DataW.trod enc Try.prog W 0 (fun _ => true) true n 3 [c0] = some y0 := by simpa [cells3] using hf 0 _ rfl
      have t1 : DataW.trod enc Try.prog W 0 (fun _ => true) true n 3 [c1] = some y1 := by simpa [cells3] using hf 1 _ rfl
      have t2 : DataW.trod enc Try.prog W 0 (fun _ => true) true n 3 [c2] = some y2 := by simpa [cells3] using hf 2 _ rfl
      have t3 : DataW.trod enc Try.prog W 0 (fun _ => true) true n 22 [c3] = some y3 := by simpa [cells3, cells22] using hf 3 _ rfl
      obtain ⟨N0, h0, _, _⟩ := DataW.trod_int Try.underlying3 t0
      obtain ⟨N1, h1, _, _⟩ := DataW.trod_int Try.underlying3 t1
      obtain ⟨N2, h2, _, _⟩ := DataW.trod_int Try.underlying3 t2
      simp only [List.map_cons, List.map_nil, Rows.uptoBulk, Rows.uptoBulkAll] at hb
      obtain ⟨l, a, cap, rfl, m1, m2, m3⟩ := open_opsC t3 (by omega)
      simp only [List.cons.injEq, and_true] at h0 h1 h2
      subst h0 h1 h2
      refine ⟨⟨N0, N1, N2, l⟩, a, cap, ?_, m1, m2, m3⟩
      unfold scr
      congr 1
      apply Array.ext'
      rw [hcs]
end
end Go.Proofs.Ytjjgihaikcnjgaa
