/-
  append of a string's bytes onto a slice with spare room of its own.
-/
import Derived.Test.YtjdkalimaldofaaSl
import Derived.Lib.AppendStr
namespace Go.Proofs.Ytjdkalimaldofaa
open Go.RowKit
set_option linter.unusedSimpArgs false
set_option linter.unusedVariables false
theorem run_append_room_str {P : Program} (w : World) (t u ty e : TypeId) (i : TypeInfo) (ht : P.underlying t = some (.slice e)) (hu : P.underlying u = some .string) (hi : P.info? e = some i) (hs1 : i.size = 1)
    (g off sLen sCap : Nat) (cur : Array Value) (hg : w.heap[g]? = some (.cells cur e (0, 0))) (s : ByteArray) (hroom : sLen + s.size ≤ sCap) (hfit : off + sLen + s.size ≤ cur.size) :
    (Builtin.append_ #[t, u] ty #[.slice (some ⟨g, off, none⟩) sLen sCap, .string s]).run P w =
      .ok (.slice (some ⟨g, off, none⟩) (sLen + s.size) sCap) (w.setRow g (cur.toList.take (off + sLen) ++ Lib.strCells s ++ cur.toList.drop (off + sLen + s.size)).toArray) := by
  have hf := Lib.run_firstCells_string (P := P) w 1 s
  have hst := run_storeCells_at P g (off + sLen) e (Lib.strCells s) 0 cur w hg (by simpa [Lib.strCells_length] using hfit) (Lib.strCells_oneCell s)
  simp only [Nat.add_zero, Lib.strCells_length] at hst
  simp [Builtin.append_, run_underlying ht, run_underlying hu, sizeOf, typeInfo, hi, hs1, Builtin.lenOf, hroom, hf, add_lit', hst]
theorem run_append_none_str {P : Program} (w : World) (t u ty e : TypeId) (i : TypeInfo) (ht : P.underlying t = some (.slice e)) (hu : P.underlying u = some .string) (hi : P.info? e = some i)
    (b : Option Addr) (s : ByteArray) (h0 : s.size = 0) : (Builtin.append_ #[t, u] ty #[.slice b 0 0, .string s]).run P w = .ok (.slice b 0 0) w := by
  have hf := Lib.run_firstCells_string (P := P) w i.size s
  have hs : Lib.strCells s = [] := List.eq_nil_of_length_eq_zero (by rw [Lib.strCells_length]; exact h0)
  rw [hs, h0] at hf
  cases b <;> simp [Builtin.append_, run_underlying ht, run_underlying hu, sizeOf, typeInfo, hi, Builtin.lenOf, h0, hf, storeCells]
theorem run_append_new_str {P : Program} (w : World) (t u ty e : TypeId) (i : TypeInfo) (z : Value) (ht : P.underlying t = some (.slice e)) (hu : P.underlying u = some .string) (hi : P.info? e = some i) (hz : i.zero = some z)
    (s : ByteArray) (h0 : 0 < s.size) (h63 : (s.size : Int) ≤ 9223372036854775807) (hfit : Builtin.nextslicecap s.size 0 * i.bytes ≤ 281474976710656) :
    (Builtin.append_ #[t, u] ty #[.slice none 0 0, .string s]).run P w =
      .ok (.slice (some ⟨w.heap.size, 0, none⟩) s.size (grownCap w s.size 0 e))
        (w.drew.alloc (.cells ((Lib.strCells s).toArray ++ Builtin.zeroCells z.cells (grownCap w s.size 0 e - s.size)) e)) := by
  have hn : ¬ (s.size ≤ 0) := by omega
  have hn2 : ¬ s.size = 0 := by omega
  have h63' : ¬ (9223372036854775807 < (s.size : Int)) := by omega
  have h48' : ¬ (281474976710656 < Builtin.nextslicecap s.size 0 * i.bytes) := by omega
  have hf := Lib.run_firstCells_string (P := P) w.drew i.size s
  have hfo := run_firstCells_none (P := P) w.drew i.size 0 0 0
  simp [Builtin.append_, run_underlying ht, run_underlying hu, sizeOf, typeInfo, zeroValue, hi, hz, Builtin.lenOf, hn, hn2, h63', h48', Question.forced, hf, hfo, newRow, grownCap]
theorem run_append_sl_str {P : Program} (w : World) (t u ty e : TypeId) (i : TypeInfo) (z : Value) (ht : P.underlying t = some (.slice e)) (hu : P.underlying u = some .string) (hi : P.info? e = some i) (hz : i.zero = some z)
    (hsize : i.size = 1) (hby : i.bytes = 1) (hzs : z.cells.size = 1)
    (own : Nat → Prop) (v : Value) (n : Nat) (xs : List Value) (hs : SlAt w own e 1 v n xs) (s : ByteArray)
    (h63 : n + s.size ≤ maxLen) (hbytes : n + s.size ≤ 140737488355328) :
    ∃ v' w', (Builtin.append_ #[t, u] ty #[v, .string s]).run P w = .ok v' w' ∧ SlAt w' (fun k => own k ∨ k = w.heap.size) e 1 v' (n + s.size) (xs ++ Lib.strCells s) ∧ Chg own w w' := by
  have hsl := Lib.strCells_length s
  have hlen : (xs ++ Lib.strCells s).length = (n + s.size) * 1 := by rw [List.length_append, hs.1, hsl]; omega
  have hmx : n + s.size ≤ 9223372036854775807 := by simp only [maxLen] at h63; omega
  have grown : ∀ (old : Nat) (hlt : old < n + s.size),
      SlAt (w.drew.alloc (.cells (xs.toArray ++ (Lib.strCells s).toArray ++ Builtin.zeroCells z.cells (grownCap w (n + s.size) old e - (n + s.size))) e)) (fun k => own k ∨ k = w.heap.size) e 1
        (.slice (some ⟨w.heap.size, 0, none⟩) (n + s.size) (grownCap w (n + s.size) old e)) (n + s.size) (xs ++ Lib.strCells s) ∧
      Chg own w (w.drew.alloc (.cells (xs.toArray ++ (Lib.strCells s).toArray ++ Builtin.zeroCells z.cells (grownCap w (n + s.size) old e - (n + s.size))) e)) := by
    intro old ho
    have hge := grownCap_ge w (n + s.size) old e
    have hcm : grownCap w (n + s.size) old e ≤ maxLen := grownCap_le_maxLen w (n + s.size) old e h63
    refine ⟨⟨hlen, .inr ⟨w.heap.size, 0, _, _, rfl, Or.inr rfl, block_new w.drew _, hge, hcm, ?_, ?_⟩⟩, ((Chg.refl _ _).drew).alloc _⟩
    · simp only [Array.size_append, List.size_toArray, size_zeroCells, hzs, hs.1, hsl, Nat.zero_add]
      omega
    · simp only [Array.toList_append, List.append_assoc, List.drop_zero]
      rw [← List.append_assoc, ← hlen]
      exact List.take_left
  rcases hs.2 with ⟨b, rfl, rfl⟩ | ⟨g, off, cap, cur, rfl, hbg, hg, hnc, hcm', hcs, htake⟩
  · have hxs : xs = [] := List.eq_nil_of_length_eq_zero (by simpa using hs.1)
    subst hxs
    by_cases hm : s.size = 0
    · have hn : Lib.strCells s = [] := List.eq_nil_of_length_eq_zero (by rw [hsl]; exact hm)
      refine ⟨.slice b 0 0, w, run_append_none_str w t u ty e i ht hu hi b s hm, ?_, Chg.refl _ _⟩
      rw [hn, hm]
      exact SlAt.nil _ _ _ _ _
    · have hgr := grown 0 (by omega)
      cases b with
      | none =>
        have hr := run_append_new_str (P := P) w t u ty e i z ht hu hi hz s (by omega) (by omega) (growslice_fits (need := s.size) (old := 0) (bytes := i.bytes) (by omega) (by rw [hby]; omega))
        simp only [Nat.zero_add, List.nil_append, Array.empty_append] at hgr ⊢
        exact ⟨_, _, hr, hgr.1, hgr.2⟩
      | some bb =>
        have hr := Lib.run_append_grow_string (P := P) w t u ty e i z ht hu hi hz bb 0 0 [] (by simp) (by simp) s (by omega) (by omega) (growslice_fits (by omega) (by rw [hby]; omega))
        exact ⟨_, _, hr, hgr.1, hgr.2⟩
  · by_cases hroom : n + s.size ≤ cap
    · have hfit : off + n + s.size ≤ cur.size := by omega
      have hr := run_append_room_str (P := P) w t u ty e i ht hu hi hsize g off n cap cur hg s hroom hfit
      refine ⟨_, _, hr, ⟨hlen, .inr ⟨g, off, cap, _, rfl, Or.inl hbg, setRow_heap w g cur _ e _ hg, hroom, hcm', ?_, ?_⟩⟩, chg_setRow (Chg.refl _ _) g _ hbg⟩
      · simp only [List.size_toArray, List.length_append, List.length_take, List.length_drop, Array.length_toList, hsl]
        omega
      · have h1 : (n + s.size) * 1 = n * 1 + (Lib.strCells s).length := by rw [hsl]; omega
        rw [h1, show off + n = off + n * 1 by omega, ← hsl]
        exact take_splice cur.toList xs (Lib.strCells s) off (n * 1) s.size htake (by rw [hs.1]) (by rw [hsl]; simp; omega)
    · have holds : ∀ (j : Nat) u, xs[j]? = some u → w.cell? ((⟨g, off, none⟩ : Addr).add j) = some u := by
        intro j u hj
        rw [add_lit', cell_of_block hg]
        rw [← htake, List.getElem?_take] at hj
        split at hj
        · rw [List.getElem?_drop] at hj; simpa using hj
        · simp at hj
      have hr := Lib.run_append_grow_string (P := P) w t u ty e i z ht hu hi hz ⟨g, off, none⟩ n cap xs (by rw [hs.1, hsize]) holds s (by omega) (by omega) (growslice_fits (by omega) (by rw [hby]; omega))
      have hgr := grown cap (by omega)
      exact ⟨_, _, hr, hgr.1, hgr.2⟩
theorem wpList_append_full {P : Program} {ops : Array Oper} {rest : List Oper} {o : Oper} {a : Act} {Q : Exit → Act → World → Prop} {w : World} (hgd : o.guard = none) (s x : Operand) (t : TypeId)
    (ho : o.op = .call { callee := .builtin .append, args := #[s, x], argTypes := #[t, t] })
    (e : TypeId) (i : TypeInfo) (z : Value) (size bytes : Nat) (ht : P.underlying t = some (.slice e)) (hi : P.info? e = some i) (hz : i.zero = some z)
    (hsize : i.size = size) (hby : i.bytes = bytes) (hzs : z.cells.size = size)
    (g off n : Nat) (xs : List Value) (hsv : a.eval s = .slice (some ⟨g, off, none⟩) n n) (hxs : xs.length = n * size) (hs : ∀ (j : Nat) u, xs[j]? = some u → w.cell? ⟨g, off + j, none⟩ = some u)
    (own2 : Nat → Prop) (y : Value) (m : Nat) (news : List Value) (hxv : a.eval x = y) (hx : RdAt w own2 size y m news) (hm : 0 < m)
    (h63 : n + m ≤ maxLen) (hbytes : (n + m) * bytes ≤ 140737488355328)
    (h : ∀ v' w', SlAt w' (fun k => k = w.heap.size) e size v' (n + m) (xs ++ news) → Below w.heap.size w w' → wpList P ops Q rest (a.put o.dst v') w') : wpList P ops Q (o :: rest) a w := by
  refine wpList_plain hgd fun K hK => ?_
  subst hsize
  subst hby
  obtain ⟨hl, ax, c, rfl, hmc, hcm, hrd⟩ := hx
  obtain ⟨gx, ox, rfl, _, _, hcell⟩ := hrd hm
  have hrun := run_append_grow (P := P) w t o.type e i z ht hi hz ⟨g, off, none⟩ n n xs hxs (fun j v hj => by rw [add_lit']; exact hs j v hj) ⟨gx, ox, none⟩ m c news hl (fun j v hj => by rw [add_lit']; exact hcell j v hj) (by omega) (by simp only [maxLen] at h63; omega) (growslice_fits (by omega) hbytes)
  have hlen : (xs ++ news).length = (n + m) * i.size := by rw [List.length_append, hxs, hl, Nat.add_mul]
  have hge := grownCap_ge w (n + m) n e
  have hcm2 : grownCap w (n + m) n e ≤ maxLen := grownCap_le_maxLen w (n + m) n e h63
  unfold Oper.wp
  simp [execOp, ho, resolve, invoke, builtin, hsv, hxv, hrun, Result.andThen]
  refine hK _ _ (h _ _ ⟨hlen, .inr ⟨w.heap.size, 0, _, _, rfl, rfl, block_new w.drew _, hge, hcm2, ?_, ?_⟩⟩ (((Below.refl _ _).drew).alloc (Nat.le_refl _) _))
  · have e1 : (n + m) * i.size + (grownCap w (n + m) n e - (n + m)) * i.size = grownCap w (n + m) n e * i.size := by rw [← Nat.add_mul]; congr 1; omega
    have e2 : (n + m) * i.size = n * i.size + m * i.size := Nat.add_mul _ _ _
    simp only [Array.size_append, List.size_toArray, size_zeroCells, hzs, hxs, hl, Nat.zero_add]
    omega
  · simp only [Array.toList_append, List.append_assoc, List.drop_zero]
    rw [← List.append_assoc, ← hlen]
    exact List.take_left
theorem wpList_append_str {P : Program} {ops : Array Oper} {rest : List Oper} {o : Oper} {a : Act} {Q : Exit → Act → World → Prop} {w : World} (hgd : o.guard = none) (s x : Operand) (t u : TypeId)
    (ho : o.op = .call { callee := .builtin .append, args := #[s, x], argTypes := #[t, u] })
    (e : TypeId) (i : TypeInfo) (z : Value) (ht : P.underlying t = some (.slice e)) (hu : P.underlying u = some .string) (hi : P.info? e = some i) (hz : i.zero = some z)
    (hsize : i.size = 1) (hby : i.bytes = 1) (hzs : z.cells.size = 1)
    (own : Nat → Prop) (v : Value) (n : Nat) (xs : List Value) (hsv : a.eval s = v) (hs : SlAt w own e 1 v n xs) (str : ByteArray) (hxv : a.eval x = .string str)
    (h63 : n + str.size ≤ maxLen) (hbytes : n + str.size ≤ 140737488355328)
    (h : ∀ v' w', SlAt w' (fun k => own k ∨ k = w.heap.size) e 1 v' (n + str.size) (xs ++ Lib.strCells str) → Chg own w w' → wpList P ops Q rest (a.put o.dst v') w') : wpList P ops Q (o :: rest) a w := by
  refine wpList_plain hgd fun K hK => ?_
  obtain ⟨v', w', hrun, h2, h3⟩ := run_append_sl_str (P := P) w t u o.type e i z ht hu hi hz hsize hby hzs own v n xs hs str h63 hbytes
  unfold Oper.wp
  simp [execOp, ho, resolve, invoke, builtin, hsv, hxv, hrun, Result.andThen]
  exact hK _ _ (h v' w' h2 h3)
theorem step_append_str {P : Program} {ops : Array Oper} {o : Oper} {a : Act} {K : Act → World → Prop} {Q : Exit → Act → World → Prop} {w : World} {E : Prop} (hgd : o.guard = none) (s x : Operand) (t u : TypeId)
    (ho : o.op = .call { callee := .builtin .append, args := #[s, x], argTypes := #[t, u] })
    (e : TypeId) (i : TypeInfo) (z : Value) (ht : P.underlying t = some (.slice e)) (hu : P.underlying u = some .string) (hi : P.info? e = some i) (hz : i.zero = some z)
    (hsize : i.size = 1) (hby : i.bytes = 1) (hzs : z.cells.size = 1)
    (own : Nat → Prop) (v : Value) (n : Nat) (xs : List Value) (hsv : a.eval s = v) (hs : SlAt w own e 1 v n xs) (str : ByteArray) (hxv : a.eval x = .string str)
    (h63 : n + str.size ≤ maxLen) (hbytes : n + str.size ≤ 140737488355328)
    (h : ∀ v' w', SlAt w' (fun k => own k ∨ k = w.heap.size) e 1 v' (n + str.size) (xs ++ Lib.strCells str) → Chg own w w' → K (a.put o.dst v') w') :
    if Region.wanted o (yielded ops a.tmps) = true then Oper.wp P o a w K Q else E := by
  have hw : Region.wanted o (yielded ops a.tmps) = true := by simp [Region.wanted, hgd]
  rw [if_pos hw]
  obtain ⟨v', w', hrun, h2, h3⟩ := run_append_sl_str (P := P) w t u o.type e i z ht hu hi hz hsize hby hzs own v n xs hs str h63 hbytes
  unfold Oper.wp
  simp [execOp, ho, resolve, invoke, builtin, hsv, hxv, hrun, Result.andThen]
  exact h v' w' h2 h3
end Go.Proofs.Ytjdkalimaldofaa
