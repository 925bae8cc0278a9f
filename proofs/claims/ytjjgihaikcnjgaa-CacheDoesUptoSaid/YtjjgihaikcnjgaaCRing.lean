/-
  The ring: out, last.
-/
import Derived.Test.YtjjgihaikcnjgaaCRep
import Derived.BigRegion
namespace Go.Proofs.Ytjjgihaikcnjgaa
open Go.RowKit Go.Maps
set_option linter.unusedSimpArgs false
set_option linter.unusedVariables false
set_option maxRecDepth 100000

theorem cells_node {w : World} {b p q : Nat} {f : Frm} {v : Value} (h : w.heap[b]? = some (.cells (nodeC p q f v) 78 (0, 0))) :
    w.cell? ⟨b, 0, none⟩ = some (ptr p) ∧ w.cell? ⟨b, 1, none⟩ = some (ptr q) ∧ w.cell? ⟨b, 2, none⟩ = some (.int .i64 f.sector) ∧ w.cell? ⟨b, 3, none⟩ = some (.int .i64 f.pins) ∧ w.cell? ⟨b, 4, none⟩ = some (.bool f.dirty) ∧ w.cell? ⟨b, 5, none⟩ = some (.int .u64 f.order) ∧ w.cell? ⟨b, 6, none⟩ = some v ∧ ∀ i, w.frozen? ⟨b, i, none⟩ = false :=
  ⟨by rw [cell_of_block h]; rfl, by rw [cell_of_block h]; rfl, by rw [cell_of_block h]; rfl, by rw [cell_of_block h]; rfl, by rw [cell_of_block h]; rfl, by rw [cell_of_block h]; rfl, by rw [cell_of_block h]; rfl, fun i => free_of_block h i⟩
/-- a frame's block that stands nowhere yet -/
def nodeV (u0 u1 : Value) (f : Frm) (v : Value) : Array Value := #[u0, u1, .int .i64 f.sector, .int .i64 f.pins, .bool f.dirty, .int .u64 f.order, v]
theorem out_low (w : World) (b p q p1 p2 q1 q2 : Nat) (f fp fq : Frm) (v vp vq : Value) (hb : w.heap[b]? = some (.cells (nodeC p q f v) 78 (0, 0))) (hp : w.heap[p]? = some (.cells (nodeC p1 p2 fp vp) 78 (0, 0))) (hq : w.heap[q]? = some (.cells (nodeC q1 q2 fq vq) 78 (0, 0))) (np : p ≠ b) (nq : q ≠ b) :
    Calls Try.prog 68 #[ptr b] w fun e w' => e = .returned (.tuple #[]) ∧ ∃ n, w' = ((w.setCell ⟨p, 1, none⟩ (ptr q)).setCell ⟨q, 0, none⟩ (ptr p)).drewN n := by
  obtain ⟨x0, x1, -, -, -, -, -, -⟩ := cells_node hb
  obtain ⟨-, y1, -, -, -, -, -, yf⟩ := cells_node hp
  obtain ⟨z0, -, -, -, -, -, -, zf⟩ := cells_node hq
  have yf := yf 1
  have zf := zf 0
  unfold ptr at *
  go_enter Try.func68, Try.ntmps68
  go_region
  go_end0
  exact ⟨rfl, 1, rfl⟩
/-- the struct's cells -/
def cacheC (db rb mb : Nat) (s : CS) : Array Value := #[ptr db, .int .i64 s.room, ptr rb, .map (some mb), .int .i64 s.hits, .int .i64 s.misses, .int .i64 s.writes, .int .i64 s.gone]
theorem cells_cache {w : World} {b db rb mb : Nat} {s : CS} (h : w.heap[b]? = some (.cells (cacheC db rb mb s) 58 (0, 0))) :
    w.cell? ⟨b, 0, none⟩ = some (ptr db) ∧ w.cell? ⟨b, 1, none⟩ = some (.int .i64 s.room) ∧ w.cell? ⟨b, 2, none⟩ = some (ptr rb) ∧ w.cell? ⟨b, 3, none⟩ = some (.map (some mb)) ∧ w.cell? ⟨b, 4, none⟩ = some (.int .i64 s.hits) ∧ w.cell? ⟨b, 5, none⟩ = some (.int .i64 s.misses) ∧ w.cell? ⟨b, 6, none⟩ = some (.int .i64 s.writes) ∧ w.cell? ⟨b, 7, none⟩ = some (.int .i64 s.gone) ∧ ∀ i, w.frozen? ⟨b, i, none⟩ = false :=
  ⟨by rw [cell_of_block h]; rfl, by rw [cell_of_block h]; rfl, by rw [cell_of_block h]; rfl, by rw [cell_of_block h]; rfl, by rw [cell_of_block h]; rfl, by rw [cell_of_block h]; rfl, by rw [cell_of_block h]; rfl, by rw [cell_of_block h]; rfl, fun i => free_of_block h i⟩
theorem last_low' (w : World) (cb b rb x r1 x0 x2 db mb : Nat) (u0 u1 : Value) (s : CS) (f fr fx : Frm) (v vr vx : Value) (hc : w.heap[cb]? = some (.cells (cacheC db rb mb s) 58 (0, 0))) (hb : w.heap[b]? = some (.cells (nodeV u0 u1 f v) 78 (0, 0)))
    (hr : w.heap[rb]? = some (.cells (nodeC x r1 fr vr) 78 (0, 0))) (hx : w.heap[x]? = some (.cells (nodeC x0 x2 fx vx) 78 (0, 0))) (nr : rb ≠ b) (nx : x ≠ b) :
    Calls Try.prog 67 #[ptr cb, ptr b] w fun e w' => e = .returned (.tuple #[]) ∧ ∃ n, w' = ((((w.setCell ⟨b, 0, none⟩ (ptr x)).setCell ⟨b, 1, none⟩ (ptr rb)).setCell ⟨x, 1, none⟩ (ptr b)).setCell ⟨rb, 0, none⟩ (ptr b)).drewN n := by
  obtain ⟨-, -, c2, -, -, -, -, -, -⟩ := cells_cache hc
  have xb0 : w.cell? ⟨b, 0, none⟩ = some u0 := by rw [cell_of_block hb]; rfl
  have xb1 : w.cell? ⟨b, 1, none⟩ = some u1 := by rw [cell_of_block hb]; rfl
  have xf := fun i => free_of_block hb i
  obtain ⟨r0, -, -, -, -, -, -, rf⟩ := cells_node hr
  obtain ⟨-, y1, -, -, -, -, -, yf⟩ := cells_node hx
  have xf0 := xf 0
  have xf1 := xf 1
  have yf := yf 1
  have rf := rf 0
  have nc1 : cb ≠ b := fun e => by subst e; rw [hc] at hb; cases hb
  have nc2 : cb ≠ rb := fun e => by subst e; rw [hc] at hr; cases hr
  have nc3 : cb ≠ x := fun e => by subst e; rw [hc] at hx; cases hx
  have nb1 := nr.symm
  have nb2 := nx.symm
  unfold ptr at *
  clear hc hb hr hx
  go_enter Try.func67, Try.ntmps67
  go_wp2
  go_region
  go_wp2
  go_end0
  exact ⟨rfl, 1, rfl⟩
theorem set_other (w : World) (b i : Nat) (v : Value) {k : Nat} (h : k ≠ b) : (w.setCell ⟨b, i, none⟩ v).heap[k]? = w.heap[k]? := Below.heap_setCell _ _ _ _ h
theorem Seg.lastAt {w : World} {col : Nat → Nat} : ∀ {ns : List (Nat × Frm)} {p q : Nat} (x : Nat × Frm), Seg w col p (x :: ns) q → ∃ m y, x :: ns = m ++ [y] ∧ y.1 = lst p (x :: ns) ∧ NodeAt w col y.1 (lst p m) q y.2
  | [], p, q, x, h => ⟨[], x, rfl, rfl, h.1⟩
  | z :: ns, p, q, x, h => by
    obtain ⟨m, y, e1, e2, e3⟩ := Seg.lastAt z h.2
    exact ⟨x :: m, y, by rw [e1]; rfl, e2, e3⟩
theorem NodeAt.raw {w : World} {col : Nat → Nat} {b p q : Nat} {f : Frm} (h : NodeAt w col b p q f) : ∃ v, w.heap[b]? = some (.cells (nodeC p q f v) 78 (0, 0)) := by obtain ⟨v, h, _⟩ := h; exact ⟨v, h⟩
/-- one cell of a frame's block is turned -/
theorem tint_keep {w : World} {col : Nat → Nat} {b i : Nat} {v : Value} (h : col b ≠ 1) : ∀ k, k < w.heap.size → col k = 1 → (w.setCell ⟨b, i, none⟩ v).heap[k]? = w.heap[k]? := fun k _ e => set_other _ _ _ _ (fun e' => by subst e'; exact h e)
theorem set_behind {w : World} {b p q q' : Nat} {f : Frm} {v : Value} (h : w.heap[b]? = some (.cells (nodeC p q f v) 78 (0, 0))) : (w.setCell ⟨b, 1, none⟩ (ptr q')).heap[b]? = some (.cells (nodeC p q' f v) 78 (0, 0)) := by rw [block_set h]; rfl
theorem set_ahead {w : World} {b p q p' : Nat} {f : Frm} {v : Value} (h : w.heap[b]? = some (.cells (nodeC p q f v) 78 (0, 0))) : (w.setCell ⟨b, 0, none⟩ (ptr p')).heap[b]? = some (.cells (nodeC p' q f v) 78 (0, 0)) := by rw [block_set h]; rfl
/-- the plain part of 'out' -/
theorem ring_cut {w : World} {col : Nat → Nat} {rb b : Nat} {f : Frm} {l1 l2 : List (Nat × Frm)} (h : RingAt w col rb (l1 ++ (b, f) :: l2)) :
    RingAt ((w.setCell ⟨lst rb l1, 1, none⟩ (ptr (hd l2 rb))).setCell ⟨hd l2 rb, 0, none⟩ (ptr (lst rb l1))) col rb (l1 ++ l2) := by
  have hs := h.seg
  have hnd := h.nodup
  have htt := h.tint
  have e0 : (rb, f0) :: (l1 ++ (b, f) :: l2) = ((rb, f0) :: l1) ++ (b, f) :: l2 := rfl
  rw [e0] at hs hnd htt
  simp only [blks, List.map_append, List.map_cons] at hnd htt
  have ndd := hnd
  rw [List.nodup_append] at hnd
  obtain ⟨n1, n2, n3⟩ := hnd
  have ha := Seg.append.1 hs
  obtain ⟨sa, hbn, sc⟩ := ha
  rw [hd_cons] at sa
  have e1 : lst rb (l1 ++ (b, f) :: l2) = lst b l2 := by rw [lst_append]; rfl
  rw [e1] at sa
  obtain ⟨m, x, em, ex, hx⟩ := Seg.lastAt _ sa
  have ex' : x.1 = lst rb l1 := ex
  have hxm : x.1 ∈ (rb :: l1.map Prod.fst) := by
    have hin : x ∈ (rb, f0) :: l1 := by rw [em]; simp
    have := List.mem_map_of_mem (f := Prod.fst) hin
    simpa using this
  have tx : col x.1 ≠ 1 := htt _ (List.mem_append_left _ hxm)
  have ndm : ((m ++ [x]).map Prod.fst).Nodup := by rw [← em]; exact n1
  have mx : ∀ y ∈ m, y.1 ≠ x.1 := fun y hy e => by
    rw [List.map_append, List.nodup_append] at ndm
    exact ndm.2.2 y.1 (List.mem_map_of_mem hy) x.1 (by simp) e
  have w1a : Seg (w.setCell ⟨x.1, 1, none⟩ (ptr (hd l2 rb))) col (lst b l2) ((rb, f0) :: l1) (hd l2 rb) := by
    rw [em] at sa ⊢
    exact sa.behind (tint_keep tx) (by simp) (fun v hv => set_behind hv) (fun y hy => set_other _ _ _ _ (mx y hy))
  rw [← ex']
  have nodup' : (blks ((rb, f0) :: (l1 ++ l2))).Nodup := by
    have e2 : (rb, f0) :: (l1 ++ l2) = ((rb, f0) :: l1) ++ l2 := rfl
    rw [e2]; simp only [blks, List.map_append, List.map_cons]
    rw [List.nodup_append]
    exact ⟨n1, (List.nodup_cons.1 n2).2, fun a ha c hc => n3 a ha c (List.mem_cons_of_mem _ hc)⟩
  have tint' : ∀ k ∈ blks ((rb, f0) :: (l1 ++ l2)), col k ≠ 1 := fun k hk => htt k (by
    simp only [blks, List.map_append, List.map_cons, List.mem_cons, List.mem_append] at hk ⊢
    rcases hk with hk | hk | hk
    · exact Or.inl (Or.inl hk)
    · exact Or.inl (Or.inr hk)
    · exact Or.inr (Or.inr hk))
  cases l2 with
  | nil =>
    simp only [hd_nil, lst_nil, List.append_nil] at *
    refine ⟨?_, nodup', tint'⟩
    rw [← ex']
    have tr : col rb ≠ 1 := tint' rb (by simp [blks])
    refine w1a.ahead (tint_keep tr) (by simp) (fun v hv => set_ahead hv) (fun y hy => set_other _ _ _ _ (fun e => ?_))
    exact (List.nodup_cons.1 n1).1 (e ▸ List.mem_map_of_mem hy)
  | cons y l2 =>
    simp only [hd_cons] at *
    have ty : col y.1 ≠ 1 := htt y.1 (by simp)
    have xy : x.1 ≠ y.1 := fun e => n3 x.1 hxm y.1 (by simp) e
    have sc1 : Seg (w.setCell ⟨x.1, 1, none⟩ (ptr y.1)) col b (y :: l2) rb := sc.keep (tint_keep tx) (Ext.refl _ _) (by simp) (fun z hz => set_other _ _ _ _ (fun e => n3 x.1 hxm z.1 (List.mem_cons_of_mem _ (List.mem_map_of_mem hz)) e.symm))
    refine ⟨?_, nodup', tint'⟩
    have e3 : (rb, f0) :: (l1 ++ y :: l2) = ((rb, f0) :: l1) ++ y :: l2 := rfl
    rw [e3]
    refine Seg.append.2 ⟨?_, ?_⟩
    · have e4 : lst rb (l1 ++ y :: l2) = lst b (y :: l2) := by rw [lst_append]; rfl
      rw [e4]
      refine w1a.keep (tint_keep ty) (Ext.refl _ _) (by simp) (fun z hz => set_other _ _ _ _ (fun e => ?_))
      exact n3 z.1 (by simpa using List.mem_map_of_mem (f := Prod.fst) hz) y.1 (by simp) e
    · have e5 : lst (lst rb (l1 ++ y :: l2)) ((rb, f0) :: l1) = x.1 := ex'.symm
      rw [e5]
      refine sc1.ahead (tint_keep ty) (by simp) (fun v hv => set_ahead hv) (fun z hz => set_other _ _ _ _ (fun e => ?_))
      have := (List.nodup_cons.1 (List.nodup_cons.1 n2).2).1
      exact this (e ▸ List.mem_map_of_mem hz)
/-- the plain part of 'last' -/
theorem ring_join {w : World} {col : Nat → Nat} {rb b : Nat} {u0 u1 v : Value} {f : Frm} {ns : List (Nat × Frm)} (h : RingAt w col rb ns) (hv : w.heap[b]? = some (.cells (nodeV u0 u1 f v) 78 (0, 0))) (hby : BytesAt w (fun k => col k = 1) v f.bytes) (hb : b ∉ blks ((rb, f0) :: ns)) (ht : col b ≠ 1) :
    RingAt ((((w.setCell ⟨b, 0, none⟩ (ptr (lst rb ns))).setCell ⟨b, 1, none⟩ (ptr rb)).setCell ⟨lst rb ns, 1, none⟩ (ptr b)).setCell ⟨rb, 0, none⟩ (ptr b)) col rb (ns ++ [(b, f)]) := by
  have hs := h.seg
  have hnd := h.nodup
  have htt := h.tint
  obtain ⟨m, x, em, ex, hx⟩ := Seg.lastAt _ hs
  have ex' : x.1 = lst rb ns := ex
  have hxm : x.1 ∈ blks ((rb, f0) :: ns) := by
    have hin : x ∈ (rb, f0) :: ns := by rw [em]; simp
    exact List.mem_map_of_mem (f := Prod.fst) hin
  have tx : col x.1 ≠ 1 := htt _ hxm
  have tr : col rb ≠ 1 := htt _ (by simp [blks])
  have ndm : ((m ++ [x]).map Prod.fst).Nodup := by rw [← em]; exact hnd
  have mx : ∀ y ∈ m, y.1 ≠ x.1 := fun y hy e => by
    rw [List.map_append, List.nodup_append] at ndm
    exact ndm.2.2 y.1 (List.mem_map_of_mem hy) x.1 (by simp) e
  have xb : x.1 ≠ b := fun e => hb (e ▸ hxm)
  have rbb : rb ≠ b := fun e => hb (by rw [← e]; simp [blks])
  rw [← ex']
  generalize hW1 : (w.setCell ⟨b, 0, none⟩ (ptr x.1)).setCell ⟨b, 1, none⟩ (ptr rb) = w1
  have s1 : w1.heap.size = w.heap.size := by rw [← hW1]; simp
  have o1 : ∀ k, k ≠ b → w1.heap[k]? = w.heap[k]? := fun k hk => by rw [← hW1, set_other _ _ _ _ hk, set_other _ _ _ _ hk]
  have t1 : ∀ k, k < w.heap.size → col k = 1 → w1.heap[k]? = w.heap[k]? := fun k _ e => o1 k (fun e' => by subst e'; exact ht e)
  have b1 : w1.heap[b]? = some (.cells (nodeC x.1 rb f v) 78 (0, 0)) := by rw [← hW1, block_set (block_set hv 0 (ptr x.1)) 1 (ptr rb)]; rfl
  have hs1 : Seg w1 col (lst rb ns) ((rb, f0) :: ns) rb := hs.keep t1 (Ext.refl _ _) (Nat.le_of_eq s1.symm) (fun y hy => o1 _ (fun e => hb (e ▸ List.mem_map_of_mem (f := Prod.fst) hy)))
  have n1 : NodeAt w1 col b x.1 rb f := ⟨v, b1, RdAt.keep hby t1 (fun k _ e => e) (Nat.le_of_eq s1.symm)⟩
  clear hW1
  have hs2 : Seg (w1.setCell ⟨x.1, 1, none⟩ (ptr b)) col (lst rb ns) ((rb, f0) :: ns) b := by
    rw [em] at hs1 ⊢
    exact hs1.behind (tint_keep tx) (by simp) (fun v hv => set_behind hv) (fun y hy => set_other _ _ _ _ (mx y hy))
  have n2 : NodeAt (w1.setCell ⟨x.1, 1, none⟩ (ptr b)) col b x.1 rb f := n1.keep (set_other _ _ _ _ xb.symm) (tint_keep tx) (Ext.refl _ _) (by simp)
  generalize w1.setCell ⟨x.1, 1, none⟩ (ptr b) = w2 at *
  have hs3 : Seg (w2.setCell ⟨rb, 0, none⟩ (ptr b)) col b ((rb, f0) :: ns) b := by
    refine hs2.ahead (tint_keep tr) (by simp) (fun v hv => set_ahead hv) (fun z hz => set_other _ _ _ _ (fun e => ?_))
    have h9 := List.mem_map_of_mem (f := Prod.fst) hz
    exact (List.nodup_cons.1 hnd).1 (by rw [e] at h9; exact h9)
  have n3 : NodeAt (w2.setCell ⟨rb, 0, none⟩ (ptr b)) col b x.1 rb f := n2.keep (set_other _ _ _ _ rbb.symm) (tint_keep tr) (Ext.refl _ _) (by simp)
  refine ⟨?_, ?_, ?_⟩
  · rw [lst_snoc]
    show Seg _ col b (((rb, f0) :: ns) ++ [(b, f)]) rb
    refine Seg.append.2 ⟨hs3, ?_, trivial⟩
    show NodeAt _ col b (lst rb ns) rb f
    rw [← ex']; exact n3
  · show (blks (((rb, f0) :: ns) ++ [(b, f)])).Nodup
    simp only [blks, List.map_append] at *
    rw [List.nodup_append]
    refine ⟨hnd, by simp, fun a ha c hc e => ?_⟩
    simp at hc
    subst hc; subst e
    exact hb ha
  · intro k hk
    have hk' : k ∈ blks (((rb, f0) :: ns) ++ [(b, f)]) := hk
    simp only [blks, List.map_append, List.mem_append] at hk'
    rcases hk' with hk' | hk'
    · exact htt k hk'
    · simp at hk'; subst hk'; exact ht
theorem Seg.lt {w : World} {col : Nat → Nat} : ∀ {ns : List (Nat × Frm)} {p q : Nat}, Seg w col p ns q → ∀ b ∈ blks ns, b < w.heap.size
  | [], _, _, _, _, hb => by simp [blks] at hb
  | x :: ns, p, q, h, b, hb => by
    simp only [blks, List.map_cons, List.mem_cons] at hb
    rcases hb with rfl | hb
    · exact h.1.lt
    · exact Seg.lt h.2 b hb
theorem RingAt.lt {w : World} {col : Nat → Nat} {rb : Nat} {ns : List (Nat × Frm)} (h : RingAt w col rb ns) : ∀ b ∈ blks ((rb, f0) :: ns), b < w.heap.size := h.seg.lt
theorem RingAt.keep {w w' : World} {col col' : Nat → Nat} {rb : Nat} {ns : List (Nat × Frm)} (h : RingAt w col rb ns) (hk : ∀ k, k < w.heap.size → (col k = 1 ∨ k ∈ blks ((rb, f0) :: ns)) → w'.heap[k]? = w.heap[k]?) (ho : Ext w.heap.size col col') (hs : w.heap.size ≤ w'.heap.size) : RingAt w' col' rb ns :=
  ⟨h.seg.keep (fun k hk' e => hk k hk' (Or.inl e)) ho hs (fun x hx => hk _ (h.lt _ (List.mem_map_of_mem hx)) (Or.inr (List.mem_map_of_mem hx))), h.nodup, fun b hb => by rw [ho b (h.lt b hb)]; exact h.tint b hb⟩
theorem RingAt.drewN {w : World} {col : Nat → Nat} {rb : Nat} {ns : List (Nat × Frm)} (h : RingAt w col rb ns) (n : Nat) : RingAt (w.drewN n) col rb ns := h.keep (fun _ _ _ => rfl) (Ext.refl _ _) (Nat.le_refl _)
/-- 'out' of one frame -/
theorem out_any (w : World) (col : Nat → Nat) (rb b : Nat) (f : Frm) (l1 l2 : List (Nat × Frm)) (h : RingAt w col rb (l1 ++ (b, f) :: l2)) :
    Calls Try.prog 68 #[ptr b] w fun e w' => e = .returned (.tuple #[]) ∧ RingAt w' col rb (l1 ++ l2) ∧ w'.heap[b]? = w.heap[b]? ∧ Chg (fun k => k ∈ blks ((rb, f0) :: (l1 ++ l2))) w w' ∧ w'.heap.size = w.heap.size := by
  have hc := ring_cut h
  have hs := h.seg
  have hnd := h.nodup
  have e0 : (rb, f0) :: (l1 ++ (b, f) :: l2) = ((rb, f0) :: l1) ++ (b, f) :: l2 := rfl
  rw [e0] at hs hnd
  obtain ⟨sa, ⟨v, hbv, _⟩, sc⟩ := Seg.append.1 hs
  rw [hd_cons] at sa
  obtain ⟨m, x, em, ex, hx⟩ := Seg.lastAt _ sa
  have ex' : x.1 = lst rb l1 := ex
  obtain ⟨vx, hx⟩ := hx.raw
  have e1 : lst (lst rb (l1 ++ (b, f) :: l2)) ((rb, f0) :: l1) = x.1 := ex'.symm
  simp only at hbv
  rw [e1] at hbv
  simp only [blks, List.map_append, List.map_cons] at hnd
  rw [List.nodup_append] at hnd
  obtain ⟨n1, n2, n3⟩ := hnd
  have hxm : x.1 ∈ (rb :: l1.map Prod.fst) := by
    have hin : x ∈ (rb, f0) :: l1 := by rw [em]; simp
    have := List.mem_map_of_mem (f := Prod.fst) hin
    simpa using this
  have xb : x.1 ≠ b := fun e => n3 x.1 hxm b (by simp) e
  have rbb : rb ≠ b := fun e => n3 rb (by simp) b (by simp) e
  have hq : ∃ q1 q2 fq vq, w.heap[hd l2 rb]? = some (.cells (nodeC q1 q2 fq vq) 78 (0, 0)) := by
    cases l2 with
    | nil => obtain ⟨v, h1, _⟩ := sa.1; exact ⟨_, _, _, v, h1⟩
    | cons y l2 => obtain ⟨v, h1, _⟩ := sc.1; exact ⟨_, _, _, v, h1⟩
  have qb : hd l2 rb ≠ b := by
    cases l2 with
    | nil => exact rbb
    | cons y l2 => exact fun e => (List.nodup_cons.1 n2).1 (by simp only [hd_cons] at e; rw [← e]; simp)
  have hqm : hd l2 rb ∈ blks ((rb, f0) :: (l1 ++ l2)) := by cases l2 <;> simp [blks, hd]
  have hpm : x.1 ∈ blks ((rb, f0) :: (l1 ++ l2)) := by
    simp only [blks, List.map_cons, List.map_append, List.mem_cons, List.mem_append] at hxm ⊢
    rcases hxm with h | h
    · exact Or.inl h
    · exact Or.inr (Or.inl h)
  obtain ⟨q1, q2, fq, vq, hq⟩ := hq
  rw [← ex'] at hc
  refine (out_low w b x.1 (hd l2 rb) _ _ _ _ _ _ _ _ _ _ hbv hx hq xb qb).mono ?_
  rintro e w' ⟨rfl, n, rfl⟩
  refine ⟨rfl, ?_, ?_, ?_, by simp [World.drewN]⟩
  · exact hc.drewN n
  · show ((w.setCell _ _).setCell _ _).heap[b]? = _
    rw [set_other _ _ _ _ qb.symm, set_other _ _ _ _ xb.symm]
  · have hk := ((Chg.refl (fun k => k ∈ blks ((rb, f0) :: (l1 ++ l2))) w).setCell ⟨x.1, 1, none⟩ (ptr (hd l2 rb)) (fun _ => hpm)).setCell ⟨hd l2 rb, 0, none⟩ (ptr x.1) (fun _ => hqm)
    exact ⟨hk.os, hk.tape, hk.output, hk.size, hk.block⟩
/-- 'last': a frame that stands nowhere is put at the end -/
theorem last_any (w : World) (col : Nat → Nat) (cb db mb rb b : Nat) (u0 u1 v : Value) (s : CS) (f : Frm) (ns : List (Nat × Frm)) (hc : w.heap[cb]? = some (.cells (cacheC db rb mb s) 58 (0, 0))) (h : RingAt w col rb ns) (hv : w.heap[b]? = some (.cells (nodeV u0 u1 f v) 78 (0, 0))) (hby : BytesAt w (fun k => col k = 1) v f.bytes) (hb : b ∉ blks ((rb, f0) :: ns)) (ht : col b ≠ 1) :
    Calls Try.prog 67 #[ptr cb, ptr b] w fun e w' => e = .returned (.tuple #[]) ∧ RingAt w' col rb (ns ++ [(b, f)]) ∧ Chg (fun k => k ∈ blks ((rb, f0) :: (ns ++ [(b, f)]))) w w' ∧ w'.heap.size = w.heap.size := by
  have hj := ring_join h hv hby hb ht
  obtain ⟨m, x, em, ex, hx⟩ := Seg.lastAt _ h.seg
  have ex' : x.1 = lst rb ns := ex
  obtain ⟨vx, hx⟩ := hx.raw
  obtain ⟨vr, hr⟩ := h.seg.1.raw
  have hxm : x.1 ∈ blks ((rb, f0) :: ns) := by
    have hin : x ∈ (rb, f0) :: ns := by rw [em]; simp
    exact List.mem_map_of_mem (f := Prod.fst) hin
  have xb : x.1 ≠ b := fun e => hb (e ▸ hxm)
  have rbb : rb ≠ b := fun e => hb (by rw [← e]; simp [blks])
  rw [← ex'] at hj
  have hr' : w.heap[rb]? = some (.cells (nodeC x.1 (hd ns rb) f0 vr) 78 (0, 0)) := by rw [ex']; exact hr
  have hx' : ∃ x1, w.heap[x.1]? = some (.cells (nodeC x1 rb x.2 vx) 78 (0, 0)) := ⟨_, hx⟩
  obtain ⟨x1, hx'⟩ := hx'
  refine (last_low' w cb b rb x.1 _ _ _ db mb u0 u1 s f _ _ v _ _ hc hv hr' hx' rbb xb).mono ?_
  rintro e w' ⟨rfl, n, rfl⟩
  have hbm : ∀ k, k ∈ blks ((rb, f0) :: ns) ∨ k = b → k ∈ blks ((rb, f0) :: (ns ++ [(b, f)])) := fun k hk => by
    simp only [blks, List.map_cons, List.map_append, List.mem_cons, List.mem_append] at hk ⊢
    rcases hk with (h | h) | h
    · exact Or.inl h
    · exact Or.inr (Or.inl h)
    · exact Or.inr (Or.inr (Or.inl h))
  refine ⟨rfl, hj.drewN n, ?_, by simp [World.drewN]⟩
  have hk := ((((Chg.refl (fun k => k ∈ blks ((rb, f0) :: (ns ++ [(b, f)]))) w).setCell ⟨b, 0, none⟩ (ptr x.1) (fun _ => hbm b (Or.inr rfl))).setCell ⟨b, 1, none⟩ (ptr rb) (fun _ => hbm b (Or.inr rfl))).setCell ⟨x.1, 1, none⟩ (ptr b) (fun _ => hbm x.1 (Or.inl hxm))).setCell ⟨rb, 0, none⟩ (ptr b) (fun _ => hbm rb (Or.inl (by simp [blks])))
  exact ⟨hk.os, hk.tape, hk.output, hk.size, hk.block⟩
end Go.Proofs.Ytjjgihaikcnjgaa
