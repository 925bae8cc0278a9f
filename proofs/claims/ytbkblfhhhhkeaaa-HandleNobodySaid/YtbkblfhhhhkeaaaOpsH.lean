/-
  The laws' lists of operations: what a reading of them gives a walk.
-/
import Derived.Test.YtbkblfhhhhkeaaaDoes
import Derived.Test.YtbkblfhhhhkeaaaRows
import Derived.ProofKit
import Derived.ChangeSlices
import Derived.Deep.Slices
namespace Go.Proofs.Ytbkblfhhhhkeaaa
open Go.RowKit Go.ChangeShapes Go.WideShapes Go.ChangeAt Go.Deep
set_option linter.unusedSimpArgs false
set_option linter.unusedVariables false

def OpH.Fine (o : OpH) : Prop := o.n ≤ 9223372036854775807
def OpCells (w : World) (g p : Nat) (o : OpH) : Prop :=
  w.cell? ⟨g, p, none⟩ = some (.int .i64 o.kind) ∧ w.cell? ⟨g, p + 1, none⟩ = some (.int .i64 o.n) ∧ w.cell? ⟨g, p + 2, none⟩ = some (.int .i64 o.flags) ∧ o.Fine
def OpsAt (w : World) (own : Nat → Prop) (v : Value) (l : List OpH) : Prop :=
  ∃ a cap, v = .slice a l.length cap ∧ l.length ≤ cap ∧ cap ≤ maxLen ∧ (0 < l.length → ∃ g off, a = some ⟨g, off, none⟩ ∧ own g ∧ g < w.heap.size ∧ ∀ i (h : i < l.length), OpCells w g (off + i * 3) l[i])
theorem OpsAt.shape {w : World} {own : Nat → Prop} {v : Value} {l : List OpH} (h : OpsAt w own v l) : ∃ a cap, v = .slice a l.length cap ∧ l.length ≤ maxLen := by
  obtain ⟨a, cap, rfl, h1, h2, h3⟩ := h
  exact ⟨a, cap, rfl, by omega⟩
theorem OpsAt.get {w : World} {own : Nat → Prop} {a : Option Addr} {n cap : Nat} {l : List OpH} (h : OpsAt w own (.slice a n cap) l) (hn : 0 < l.length) :
    ∃ g off, a = some ⟨g, off, none⟩ ∧ own g ∧ g < w.heap.size ∧ ∀ i (h : i < l.length), OpCells w g (off + i * 3) l[i] := by
  obtain ⟨a', cap', e, h1, h2, h3⟩ := h
  injection e with e1 e2 e3
  subst e1
  exact h3 hn
theorem OpCells.below {W w : World} {g p : Nat} {o : OpH} (h : Below W.heap.size W w) (hg : g < W.heap.size) (r : OpCells W g p o) :
    w.cell? ⟨g, p, none⟩ = some (.int .i64 o.kind) ∧ w.cell? ⟨g, p + 1, none⟩ = some (.int .i64 o.n) ∧ w.cell? ⟨g, p + 2, none⟩ = some (.int .i64 o.flags) ∧ o.n ≤ 9223372036854775807 := by
  obtain ⟨c0, c1, c2, f⟩ := r
  exact ⟨(h.cell (p := ⟨g, p, none⟩) hg).trans c0, (h.cell (p := ⟨g, p + 1, none⟩) hg).trans c1, (h.cell (p := ⟨g, p + 2, none⟩) hg).trans c2, f⟩

section
variable {H : Type} {enc : TypeId × Value → H} {W : World}
theorem cells38 : Try.prog.cellsOf 38 = 3 := by kernel_rfl
theorem cells3 : Try.prog.cellsOf 3 = 1 := by kernel_rfl
theorem op_of_open {fuel : Nat} {cs : List Value} {g p : Nat} {x : DataW H × List MemPlace} (hcs : W.cells? 0 ⟨g, p, none⟩ 3 = some cs) (h : DataW.trod enc Try.prog W 0 (fun _ => true) true fuel 38 cs = some x) :
    ∃ o : OpH, OpCells W g p o := by
  obtain ⟨xs, n, _, rfl, hl, hlen, hf⟩ := DataW.trod_struct Try.underlying38 h
  obtain ⟨_, hl5, hc⟩ := World.cells?_some hcs
  match cs, hl5 with
  | [c0, c1, c2], _ =>
    match xs, hlen with
    | [y0, y1, y2], _ =>
      have t0 : DataW.trod enc Try.prog W 0 (fun _ => true) true n 3 [c0] = some y0 := by simpa [cells3] using hf 0 _ rfl
      have t1 : DataW.trod enc Try.prog W 0 (fun _ => true) true n 3 [c1] = some y1 := by simpa [cells3] using hf 1 _ rfl
      have t2 : DataW.trod enc Try.prog W 0 (fun _ => true) true n 3 [c2] = some y2 := by simpa [cells3] using hf 2 _ rfl
      obtain ⟨N0, h0, _, w0⟩ := DataW.trod_int Try.underlying3 t0
      obtain ⟨N1, h1, _, w1⟩ := DataW.trod_int Try.underlying3 t1
      obtain ⟨N2, h2, _, w2⟩ := DataW.trod_int Try.underlying3 t2
      simp only [List.cons.injEq, and_true] at h0 h1 h2
      subst h0 h1 h2
      simp [Lit.wf, IntKind.min, IntKind.max, IntKind.bits, IntKind.signed] at w1
      have e := fun i hi => by have := hc i hi; rw [add_lit'] at this; exact this
      exact ⟨⟨N0, N1, N2⟩, (e 0 (by omega)).trans rfl, (e 1 (by omega)).trans rfl, (e 2 (by omega)).trans rfl, by unfold OpH.Fine; simp only; omega⟩
theorem open_opsH {base : Nat} {v : Value} {d : DataW H} {p : List MemPlace} (hv : Value.okWide Try.prog W .any base 32 v) (h : DataW.Trod enc Try.prog W 0 (fun _ => true) true 32 v d p) :
    ∃ l : List OpH, OpsAt W (fun k => k < W.heap.size) v l := by
  obtain ⟨fuel, h⟩ := h
  obtain ⟨a', len', cap', rfl⟩ := okWide_slice Try.underlying32 hv
  have hcc : (Value.slice a' len' cap').cells.toList = [.slice a' len' cap'] := rfl
  rw [hcc] at h
  rcases open_slice Try.underlying32 h with ⟨hcs, hx⟩ | ⟨a, len, cap, m, n, D, Pl, hcs, _, hl, hm, hmm, hx, hall⟩
  · simp only [List.cons.injEq, and_true] at hcs
    injection hcs with q1 q2 q3
    subst q1 q2 q3
    exact ⟨[], ⟨none, 0, rfl, Nat.le_refl _, by unfold maxLen; omega, fun h => by simp at h⟩⟩
  · simp only [List.cons.injEq, and_true] at hcs
    injection hcs with q1 q2 q3
    subst q1 q2 q3
    simp only [if_true] at hmm
    subst hmm
    rw [cells38] at hall
    by_cases h0 : 0 < len'
    · have hsp : a.spot = none := by
        obtain ⟨cs', h1, _⟩ := hall 0 (by omega)
        obtain ⟨_, hl5, hc⟩ := World.cells?_some h1
        have := hc 0 (by omega)
        rw [List.getElem?_eq_getElem (by omega)] at this
        simpa [Addr.add] using World.cell?_spot this
      obtain ⟨g, off, sp⟩ := a
      simp only at hsp
      subst hsp
      have each : ∀ i, i < len' → ∃ o : OpH, OpCells W g (off + i * 3) o := fun i hi => by
        obtain ⟨cs', h1, h2⟩ := hall i (by omega)
        rw [add_lit'] at h1
        exact op_of_open h1 h2
      obtain ⟨f, hf⟩ := choose_lt each
      have hg : g < W.heap.size := by have := cell_lt (hf 0 h0).1; exact this
      refine ⟨(List.range len').map f, ⟨some ⟨g, off, none⟩, m, by simp, by simpa using hl, hm, fun _ => ⟨g, off, rfl, hg, hg, fun i hi => ?_⟩⟩⟩
      simp only [List.length_map, List.length_range] at hi
      simpa using hf i hi
    · obtain rfl : len' = 0 := by omega
      exact ⟨[], ⟨some a, m, rfl, by simp, hm, fun h => by simp at h⟩⟩
end

theorem does_any (w : World) (bad : List Nat) (b r : Nat) (l : List (Int × Int)) (o : OpH) (h : Pair w bad b r l) (hn : o.n ≤ 9223372036854775807) :
    Calls Try.prog 12 #[.pointer (some ⟨b, 0, none⟩), .pointer (some ⟨r, 0, none⟩), opv o] w fun e w' => e = .returned (.bool true) ∧ ODid bad b r (doesS l o) w w' := by
  unfold doesS
  by_cases k0 : o.kind = 0
  · rw [if_pos k0]; exact does_open w bad b r l o h hn k0
  rw [if_neg k0]
  by_cases k1 : o.kind = 1
  · rw [if_pos k1]; exact does_close w bad b r l o h hn k1
  rw [if_neg k1]
  by_cases k6 : o.kind = 6
  · rw [if_pos k6]; exact does_clear w bad b r l o h hn k6
  rw [if_neg k6]
  by_cases k2 : o.kind = 2
  · exact does_get w bad b r l o h hn k2
  by_cases k3 : o.kind = 3
  · exact does_count w bad b r l o h hn k3
  by_cases k4 : o.kind = 4
  · exact does_all w bad b r l o h hn k4
  by_cases k5 : o.kind = 5
  · exact does_inodes w bad b r l o h hn k5
  exact does_none w bad b r l o h hn ⟨k0, k1, k2, k3, k4, k5, k6⟩
end Go.Proofs.Ytbkblfhhhhkeaaa
