/-
  The laws' lists of operations: what a reading of them gives a walk.
-/
import Derived.Test.YtlkebppmdbgdmaaWalks3
import Derived.Test.YtlkebppmdbgdmaaRows
import Derived.ProofKit
import Derived.ChangeSlices
import Derived.Deep.Slices
namespace Go.Proofs.Ytlkebppmdbgdmaa
open Go.RowKit Go.ChangeShapes Go.WideShapes Go.ChangeAt Go.Deep
set_option linter.unusedSimpArgs false
set_option linter.unusedVariables false

structure OpD where
  kind : Int
  n : Int
  byte : Int
  more : Int
  keep : List Int
instance : Inhabited OpD := ⟨⟨0, 0, 0, 0, []⟩⟩
def OpD.Fine (o : OpD) : Prop := (-9223372036854775808 ≤ o.n ∧ o.n ≤ 9223372036854775807) ∧ (0 ≤ o.byte ∧ o.byte < 256) ∧ (-9223372036854775808 ≤ o.more ∧ o.more ≤ 9223372036854775807)

/-- one operation's cells -/
def OpCells (w : World) (own : Nat → Prop) (g p : Nat) (o : OpD) : Prop :=
  w.cell? ⟨g, p, none⟩ = some (.int .i64 o.kind) ∧ w.cell? ⟨g, p + 1, none⟩ = some (.int .i64 o.n) ∧ w.cell? ⟨g, p + 2, none⟩ = some (.int .u8 o.byte) ∧ w.cell? ⟨g, p + 3, none⟩ = some (.int .i64 o.more) ∧
    ∃ a cap, w.cell? ⟨g, p + 4, none⟩ = some (.slice a o.keep.length cap) ∧ IntsAt w own (.slice a o.keep.length cap) o.keep ∧ o.Fine
def OpsAt (w : World) (own : Nat → Prop) (v : Value) (l : List OpD) : Prop :=
  ∃ a cap, v = .slice a l.length cap ∧ l.length ≤ cap ∧ cap ≤ maxLen ∧ (0 < l.length → ∃ g off, a = some ⟨g, off, none⟩ ∧ own g ∧ g < w.heap.size ∧ ∀ i (h : i < l.length), OpCells w own g (off + i * 5) l[i])

theorem OpsAt.keep {w w' : World} {own : Nat → Prop} {v : Value} {l : List OpD} (h : OpsAt w own v l) (hk : ∀ k, k < w.heap.size → own k → w'.heap[k]? = w.heap[k]?) (hs : w.heap.size ≤ w'.heap.size) : OpsAt w' own v l := by
  obtain ⟨a, cap, rfl, h1, h2, h3⟩ := h
  refine ⟨a, cap, rfl, h1, h2, fun hn => ?_⟩
  obtain ⟨g, off, rfl, h4, h5, h6⟩ := h3 hn
  refine ⟨g, off, rfl, h4, by omega, fun i hi => ?_⟩
  obtain ⟨c0, c1, c2, c3, a, cap, c4, c5, c6⟩ := h6 i hi
  have e : ∀ q, w'.cell? ⟨g, q, none⟩ = w.cell? ⟨g, q, none⟩ := fun q => World.cell?_of_block (w := w) (hk g h5 h4)
  exact ⟨(e _).trans c0, (e _).trans c1, (e _).trans c2, (e _).trans c3, a, cap, (e _).trans c4, RdAt.keep c5 hk (fun _ _ x => x) hs, c6⟩
theorem OpsAt.below {w w' : World} {own : Nat → Prop} {v : Value} {l : List OpD} (h : OpsAt w own v l) (hb : Below w.heap.size w w') : OpsAt w' own v l := h.keep (fun k hk _ => hb.block k hk) hb.size
theorem OpsAt.chg {w w' : World} {own own2 : Nat → Prop} {v : Value} {l : List OpD} (h : OpsAt w own v l) (hc : Chg own2 w w') (hd : ∀ k, own k → ¬ own2 k) : OpsAt w' own v l := h.keep (fun k hk ho => hc.block k hk (hd k ho)) hc.size
theorem OpsAt.shape {w : World} {own : Nat → Prop} {v : Value} {l : List OpD} (h : OpsAt w own v l) : ∃ a cap, v = .slice a l.length cap ∧ l.length ≤ maxLen := by
  obtain ⟨a, cap, rfl, h1, h2, h3⟩ := h
  exact ⟨a, cap, rfl, by omega⟩
theorem OpsAt.get {w : World} {own : Nat → Prop} {a : Option Addr} {n cap : Nat} {l : List OpD} (h : OpsAt w own (.slice a n cap) l) (hn : 0 < l.length) :
    ∃ g off, a = some ⟨g, off, none⟩ ∧ own g ∧ g < w.heap.size ∧ ∀ i (h : i < l.length), OpCells w own g (off + i * 5) l[i] := by
  obtain ⟨a', cap', e, h1, h2, h3⟩ := h
  injection e with e1 e2 e3
  subst e1
  exact h3 hn

section
variable {H : Type} {enc : TypeId × Value → H} {W : World}

theorem ints_of_open {k : IntKind} {t e : TypeId} {fuel : Nat} {v : Value} {x : DataW H × List MemPlace} (ht : Try.prog.underlying t = some (.slice e)) (he : Try.prog.underlying e = some (.int k)) (hc : Try.prog.cellsOf e = 1)
    (h : DataW.trod enc Try.prog W 0 (fun _ => true) true fuel t [v] = some x) :
    ∃ l : List Int, RdAt W (fun k => k < W.heap.size) 1 v l.length (l.map (Value.int k)) ∧ (x.1 = .nil ∧ l = [] ∨ ∃ r, x.1 = .slice (lits k l) r) ∧ ∀ n ∈ l, (Lit.int k n).wf = true := by
  rcases open_ints ht he hc h with ⟨hcs, rfl⟩ | ⟨a, len, cap, zs, hcs, hb, hl, hm, hz, rfl, hcell, hw⟩
  · simp only [List.cons.injEq, and_true] at hcs
    subst hcs
    exact ⟨[], ⟨by simp, none, 0, rfl, Nat.le_refl _, by unfold maxLen; omega, fun h => by simp at h⟩, Or.inl ⟨rfl, rfl⟩, by simp⟩
  · simp only [List.cons.injEq, and_true] at hcs
    subst hcs
    simp only [if_true] at hz
    have hlen : (zs.take len).length = len := by simp; omega
    refine ⟨zs.take len, ⟨by simp, some a, cap, by rw [hlen], by omega, hm, fun hn => ?_⟩, Or.inr ⟨_, rfl⟩, fun n hn => hw n (List.mem_of_mem_take hn)⟩
    have h0 := hcell 0 (by omega)
    obtain ⟨g, off, sp⟩ := a
    have hsp : sp = none := by simpa [Addr.add] using World.cell?_spot h0
    subst hsp
    have hg : g < W.heap.size := by have := cell_lt h0; simpa [Addr.add] using this
    refine ⟨g, off, rfl, hg, hg, fun j u hj => ?_⟩
    have hj' : j < len := by
      rcases Nat.lt_or_ge j len with h | h
      · exact h
      · rw [List.getElem?_eq_none (by simp; omega)] at hj; cases hj
    have hc := hcell j (by omega)
    rw [add_lit'] at hc
    rw [hc, ← hj]
    simp [hj', List.getD_eq_getElem?_getD, List.getElem?_eq_getElem (show j < zs.length by omega)]

theorem open_ints' {base : Nat} {v : Value} {d : DataW H} {p : List MemPlace} (hv : Value.okWide Try.prog W .any base 23 v) (h : DataW.Trod enc Try.prog W 0 (fun _ => true) true 23 v d p) : ∃ l : List Int, IntsAt W (fun k => k < W.heap.size) v l := by
  obtain ⟨n, h⟩ := h
  obtain ⟨a, len, cap, rfl⟩ := okWide_slice Try.underlying23 hv
  obtain ⟨l, h1, _⟩ := ints_of_open Try.underlying23 Try.underlying3 (by kernel_rfl) h
  exact ⟨l, h1⟩
theorem open_bytes' {base : Nat} {v : Value} {d : DataW H} {p : List MemPlace} (hv : Value.okWide Try.prog W .any base 30 v) (h : DataW.Trod enc Try.prog W 0 (fun _ => true) true 30 v d p) : ∃ l : List Int, BytesAt W (fun k => k < W.heap.size) v l ∧ ((d = .nil ∧ l = []) ∨ ∃ r, d = .slice (lits .u8 l) r) ∧ ∀ n ∈ l, 0 ≤ n ∧ n < 256 := by
  obtain ⟨n, h⟩ := h
  obtain ⟨a, len, cap, rfl⟩ := okWide_slice Try.underlying30 hv
  obtain ⟨l, h1, h2, h3⟩ := ints_of_open Try.underlying30 Try.underlying5 (by kernel_rfl) h
  refine ⟨l, h1, h2, fun n hn => ?_⟩
  have := h3 n hn
  simp [Lit.wf, IntKind.min, IntKind.max, IntKind.bits, IntKind.signed] at this
  omega

theorem open_intsU {base : Nat} {v : Value} {d : DataW H} {p : List MemPlace} (hv : Value.okWide Try.prog W .any base 23 v) (h : DataW.Trod enc Try.prog W 0 (fun _ => true) true 23 v d p) (_ : Rows.uptoBulk d ≤ 1048576) : ∃ l : List Int, IntsAt W (fun k => k < W.heap.size) v l := open_ints' hv h
theorem cells32 : Try.prog.cellsOf 32 = 5 := by kernel_rfl
theorem cells3 : Try.prog.cellsOf 3 = 1 := by kernel_rfl
theorem cells5 : Try.prog.cellsOf 5 = 1 := by kernel_rfl
theorem cells23 : Try.prog.cellsOf 23 = 1 := by kernel_rfl

theorem op_of_open {fuel : Nat} {cs : List Value} {g p : Nat} {x : DataW H × List MemPlace} (hcs : W.cells? 0 ⟨g, p, none⟩ 5 = some cs) (h : DataW.trod enc Try.prog W 0 (fun _ => true) true fuel 32 cs = some x) :
    ∃ o : OpD, OpCells W (fun k => k < W.heap.size) g p o := by
  obtain ⟨xs, n, _, rfl, hl, hlen, hf⟩ := DataW.trod_struct Try.underlying32 h
  obtain ⟨_, hl5, hc⟩ := World.cells?_some hcs
  match cs, hl5 with
  | [c0, c1, c2, c3, c4], _ =>
    match xs, hlen with
    | [y0, y1, y2, y3, y4], _ =>
      have t0 : DataW.trod enc Try.prog W 0 (fun _ => true) true n 3 [c0] = some y0 := by simpa [cells3] using hf 0 _ rfl
      have t1 : DataW.trod enc Try.prog W 0 (fun _ => true) true n 3 [c1] = some y1 := by simpa [cells3] using hf 1 _ rfl
      have t2 : DataW.trod enc Try.prog W 0 (fun _ => true) true n 5 [c2] = some y2 := by simpa [cells5] using hf 2 _ rfl
      have t3 : DataW.trod enc Try.prog W 0 (fun _ => true) true n 3 [c3] = some y3 := by simpa [cells3] using hf 3 _ rfl
      have t4 : DataW.trod enc Try.prog W 0 (fun _ => true) true n 23 [c4] = some y4 := by simpa [cells23] using hf 4 _ rfl
      obtain ⟨N0, h0, _, w0⟩ := DataW.trod_int Try.underlying3 t0
      obtain ⟨N1, h1, _, w1⟩ := DataW.trod_int Try.underlying3 t1
      obtain ⟨N2, h2, _, w2⟩ := DataW.trod_int Try.underlying5 t2
      obtain ⟨N3, h3, _, w3⟩ := DataW.trod_int Try.underlying3 t3
      obtain ⟨l, h4, _, _⟩ := ints_of_open Try.underlying23 Try.underlying3 (by kernel_rfl) t4
      simp only [List.cons.injEq, and_true] at h0 h1 h2 h3
      subst h0 h1 h2 h3
      obtain ⟨a, cap, rfl, _⟩ := RdAt.shape h4
      simp [Lit.wf, IntKind.min, IntKind.max, IntKind.bits, IntKind.signed] at w1 w2 w3
      have e := fun i hi => by have := hc i hi; rw [add_lit'] at this; exact this
      exact ⟨⟨N0, N1, N2, N3, l⟩, by simpa using e 0 (by omega), by simpa using e 1 (by omega), by simpa using e 2 (by omega), by simpa using e 3 (by omega), a, cap, by simpa using e 4 (by omega), h4, by unfold OpD.Fine; simp only; omega⟩

theorem bulk_pos (d : DataW H) : 1 ≤ Rows.uptoBulk d := by
  cases d with
  | lit x => cases x <;> simp [Rows.uptoBulk]
  | _ => simp [Rows.uptoBulk]
theorem bulkAll_len : ∀ ds : List (DataW H), ds.length ≤ Rows.uptoBulkAll ds
  | [] => Nat.zero_le _
  | d :: r => by
    have := bulk_pos d; have := bulkAll_len r
    simp only [List.length_cons, Rows.uptoBulkAll]; omega

theorem open_ops {base : Nat} {v : Value} {d : DataW H} {p : List MemPlace} (hv : Value.okWide Try.prog W .any base 22 v) (h : DataW.Trod enc Try.prog W 0 (fun _ => true) true 22 v d p) (hb : Rows.uptoBulk d ≤ 1048576) :
    ∃ l : List OpD, OpsAt W (fun k => k < W.heap.size) v l ∧ l.length ≤ 1048576 := by
  obtain ⟨fuel, h⟩ := h
  obtain ⟨a', len', cap', rfl⟩ := okWide_slice Try.underlying22 hv
  have hcc : (Value.slice a' len' cap').cells.toList = [.slice a' len' cap'] := rfl
  rw [hcc] at h
  rcases open_slice Try.underlying22 h with ⟨hcs, hx⟩ | ⟨a, len, cap, m, n, D, Pl, hcs, _, hl, hm, hmm, hx, hall⟩
  · simp only [List.cons.injEq, and_true] at hcs
    injection hcs with q1 q2 q3
    subst q1 q2 q3
    exact ⟨[], ⟨none, 0, rfl, Nat.le_refl _, by unfold maxLen; omega, fun h => by simp at h⟩, by simp⟩
  · simp only [List.cons.injEq, and_true] at hcs
    injection hcs with q1 q2 q3
    subst q1 q2 q3
    simp only [if_true] at hmm
    subst hmm
    simp only [Prod.mk.injEq] at hx
    obtain ⟨rfl, rfl⟩ := hx
    have hlb : len' ≤ 1048576 := by
      simp only [Rows.uptoBulk] at hb
      have := bulkAll_len ((List.range len').map D)
      simp only [List.length_map, List.length_range] at this
      omega
    rw [cells32] at hall
    by_cases h0 : 0 < len'
    · have hsp : a.spot = none := by
        obtain ⟨cs', h1, _⟩ := hall 0 (by omega)
        obtain ⟨_, hl5, hc⟩ := World.cells?_some h1
        have := hc 0 (by omega)
        rw [List.getElem?_eq_getElem (by omega)] at this
        simpa [Addr.add] using World.cell?_spot this
      obtain ⟨g, off, sp⟩ := a
      simp only at hsp
      subst hsp
      have each : ∀ i, i < len' → ∃ o : OpD, OpCells W (fun k => k < W.heap.size) g (off + i * 5) o := fun i hi => by
        obtain ⟨cs', h1, h2⟩ := hall i (by omega)
        rw [add_lit'] at h1
        exact op_of_open h1 h2
      obtain ⟨f, hf⟩ := choose_lt each
      have hg : g < W.heap.size := by have := cell_lt (hf 0 h0).1; exact this
      refine ⟨(List.range len').map f, ⟨some ⟨g, off, none⟩, m, by simp, by simpa using hl, hm, fun _ => ⟨g, off, rfl, hg, hg, fun i hi => ?_⟩⟩, by simpa using hlb⟩
      simp only [List.length_map, List.length_range] at hi
      simpa using hf i hi
    · obtain rfl : len' = 0 := by omega
      exact ⟨[], ⟨some a, m, rfl, by simp, hm, fun h => by simp at h⟩, by simp⟩
end
end Go.Proofs.Ytlkebppmdbgdmaa
