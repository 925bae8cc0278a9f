/-
  A cache as it lies in memory: the struct, the ring of its frames, the map.
-/
import Derived.Test.YtjjgihaikcnjgaaCPlain
import Derived.Maps.OwnOps
import Derived.Maps.OwnSet
import Derived.Maps.Views
namespace Go.Proofs.Ytjjgihaikcnjgaa
open Go.RowKit Go.Maps
set_option linter.unusedSimpArgs false
set_option linter.unusedVariables false
set_option maxRecDepth 100000

def ptr (b : Nat) : Value := .pointer (some ⟨b, 0, none⟩)
def nodeC (p q : Nat) (f : Frm) (v : Value) : Array Value := #[ptr p, ptr q, .int .i64 f.sector, .int .i64 f.pins, .bool f.dirty, .int .u64 f.order, v]
/-- a frame's block between two others -/
def NodeAt (w : World) (col : Nat → Nat) (b p q : Nat) (f : Frm) : Prop := ∃ v, w.heap[b]? = some (.cells (nodeC p q f v) 78 (0, 0)) ∧ BytesAt w (fun k => col k = 1) v f.bytes
def hd (ns : List (Nat × Frm)) (q : Nat) : Nat := match ns with | [] => q | x :: _ => x.1
def lst (p : Nat) : List (Nat × Frm) → Nat
  | [] => p
  | x :: ns => lst x.1 ns
/-- a part of the ring, from behind p on to q -/
def Seg (w : World) (col : Nat → Nat) : Nat → List (Nat × Frm) → Nat → Prop
  | _, [], _ => True
  | p, x :: ns, q => NodeAt w col x.1 p (hd ns q) x.2 ∧ Seg w col x.1 ns q
@[simp] theorem hd_nil (q : Nat) : hd [] q = q := rfl
@[simp] theorem hd_cons (x : Nat × Frm) (ns : List (Nat × Frm)) (q : Nat) : hd (x :: ns) q = x.1 := rfl
@[simp] theorem lst_nil (p : Nat) : lst p [] = p := rfl
@[simp] theorem lst_cons (p : Nat) (x : Nat × Frm) (ns : List (Nat × Frm)) : lst p (x :: ns) = lst x.1 ns := rfl
theorem hd_append (a b : List (Nat × Frm)) (q : Nat) : hd (a ++ b) q = hd a (hd b q) := by cases a <;> rfl
theorem lst_append (p : Nat) : ∀ (a b : List (Nat × Frm)), lst p (a ++ b) = lst (lst p a) b
  | [], b => rfl
  | x :: a, b => lst_append x.1 a b
theorem lst_snoc (p : Nat) (a : List (Nat × Frm)) (x : Nat × Frm) : lst p (a ++ [x]) = x.1 := by rw [lst_append]; rfl
theorem Seg.append {w : World} {col : Nat → Nat} : ∀ {a b : List (Nat × Frm)} {p q : Nat}, Seg w col p (a ++ b) q ↔ Seg w col p a (hd b q) ∧ Seg w col (lst p a) b q
  | [], b, p, q => by simp [Seg]
  | x :: a, b, p, q => by
    show (NodeAt w col x.1 p (hd (a ++ b) q) x.2 ∧ Seg w col x.1 (a ++ b) q) ↔ ((NodeAt w col x.1 p (hd a (hd b q)) x.2 ∧ Seg w col x.1 a (hd b q)) ∧ Seg w col (lst x.1 a) b q)
    rw [hd_append, Seg.append (a := a), and_assoc]
theorem Seg.mid {w : World} {col : Nat → Nat} {a b : List (Nat × Frm)} {x : Nat × Frm} {p q : Nat} (h : Seg w col p (a ++ x :: b) q) : NodeAt w col x.1 (lst p a) (hd b q) x.2 := (Seg.append.1 h).2.1
theorem NodeAt.lt {w : World} {col : Nat → Nat} {b p q : Nat} {f : Frm} (h : NodeAt w col b p q f) : b < w.heap.size := by obtain ⟨v, h, _⟩ := h; exact lt_of_block h
/-- what is not touched stays -/
theorem NodeAt.keep {w w' : World} {col col' : Nat → Nat} {b p q : Nat} {f : Frm} (h : NodeAt w col b p q f) (hb : w'.heap[b]? = w.heap[b]?) (hk : ∀ k, k < w.heap.size → col k = 1 → w'.heap[k]? = w.heap[k]?) (ho : Ext w.heap.size col col') (hs : w.heap.size ≤ w'.heap.size) : NodeAt w' col' b p q f := by
  obtain ⟨v, h1, h2⟩ := h
  exact ⟨v, hb.trans h1, RdAt.keep h2 hk (fun k hk' e => by rw [ho k hk']; exact e) hs⟩
theorem Seg.keep {w w' : World} {col col' : Nat → Nat} (hk : ∀ k, k < w.heap.size → col k = 1 → w'.heap[k]? = w.heap[k]?) (ho : Ext w.heap.size col col') (hs : w.heap.size ≤ w'.heap.size) :
    ∀ {ns : List (Nat × Frm)} {p q : Nat}, Seg w col p ns q → (∀ x ∈ ns, w'.heap[x.1]? = w.heap[x.1]?) → Seg w' col' p ns q
  | [], _, _, _, _ => trivial
  | x :: ns, p, q, h, hb => ⟨h.1.keep (hb x (by simp)) hk ho hs, Seg.keep hk ho hs h.2 (fun y hy => hb y (by simp [hy]))⟩
theorem nodeC_behind (p q q' : Nat) (f : Frm) (v : Value) : (nodeC p q f v).setIfInBounds 1 (ptr q') = nodeC p q' f v := rfl
theorem nodeC_ahead (p p' q : Nat) (f : Frm) (v : Value) : (nodeC p q f v).setIfInBounds 0 (ptr p') = nodeC p' q f v := rfl
/-- the last one's 'behind' is turned -/
theorem Seg.behind {w w' : World} {col : Nat → Nat} (hc1 : ∀ k, k < w.heap.size → col k = 1 → w'.heap[k]? = w.heap[k]?) (hs : w.heap.size ≤ w'.heap.size) {ns : List (Nat × Frm)} {x : Nat × Frm} {p q q' : Nat} (h : Seg w col p (ns ++ [x]) q)
    (hx : ∀ v, w.heap[x.1]? = some (.cells (nodeC (lst p ns) q x.2 v) 78 (0, 0)) → w'.heap[x.1]? = some (.cells (nodeC (lst p ns) q' x.2 v) 78 (0, 0))) (hn : ∀ y ∈ ns, w'.heap[y.1]? = w.heap[y.1]?) : Seg w' col p (ns ++ [x]) q' := by
  obtain ⟨h1, h2, _⟩ := Seg.append.1 h
  obtain ⟨v, hv, hb⟩ := h2
  exact Seg.append.2 ⟨h1.keep hc1 (Ext.refl _ _) hs hn, ⟨v, hx v hv, RdAt.keep hb hc1 (fun k _ e => e) hs⟩, trivial⟩
/-- the first one's 'ahead' is turned -/
theorem Seg.ahead {w w' : World} {col : Nat → Nat} (hc1 : ∀ k, k < w.heap.size → col k = 1 → w'.heap[k]? = w.heap[k]?) (hs : w.heap.size ≤ w'.heap.size) {ns : List (Nat × Frm)} {x : Nat × Frm} {p p' q : Nat} (h : Seg w col p (x :: ns) q)
    (hx : ∀ v, w.heap[x.1]? = some (.cells (nodeC p (hd ns q) x.2 v) 78 (0, 0)) → w'.heap[x.1]? = some (.cells (nodeC p' (hd ns q) x.2 v) 78 (0, 0))) (hn : ∀ y ∈ ns, w'.heap[y.1]? = w.heap[y.1]?) : Seg w' col p' (x :: ns) q := by
  obtain ⟨⟨v, hv, hb⟩, h2⟩ := h
  exact ⟨⟨v, hx v hv, RdAt.keep hb hc1 (fun k _ e => e) hs⟩, h2.keep hc1 (Ext.refl _ _) hs hn⟩
def f0 : Frm := ⟨0, 0, false, 0, []⟩
/-- the blocks of the ring -/
def blks (ns : List (Nat × Frm)) : List Nat := ns.map Prod.fst
/-- the ring -/
structure RingAt (w : World) (col : Nat → Nat) (rb : Nat) (ns : List (Nat × Frm)) : Prop where
  seg : Seg w col (lst rb ns) ((rb, f0) :: ns) rb
  nodup : (blks ((rb, f0) :: ns)).Nodup
  tint : ∀ b ∈ blks ((rb, f0) :: ns), col b ≠ 1

/-- the elements of the map -/
def ptrElem : Value → Option (DataW Unit × List MemPlace)
  | .pointer none => some (.lit (.int .i64 0), [])
  | .pointer (some ⟨b, 0, none⟩) => some (.lit (.int .i64 ((b : Int) + 1)), [])
  | _ => none
theorem ptrElem_ptr (b : Nat) : ptrElem (ptr b) = some (.lit (.int .i64 ((b : Int) + 1)), []) := rfl
theorem ptrElem_nil : ptrElem (.pointer none) = some (.lit (.int .i64 0), []) := rfl
theorem ptrElem_inv {v : Value} {z : Int} {ps : List MemPlace} (h : ptrElem v = some (.lit (.int .i64 z), ps)) : (v = .pointer none ∧ z = 0) ∨ ∃ b : Nat, v = ptr b ∧ z = b + 1 := by
  unfold ptrElem at h
  split at h
  · simp at h; exact Or.inl ⟨rfl, h.1.symm⟩
  · simp at h; exact Or.inr ⟨_, rfl, h.1.symm⟩
  · cases h
/-- a sector's block; none: 0 -/
def blockOf (ns : List (Nat × Frm)) (n : Int) : Int := match ns.find? (fun x => Frm.is n x.2) with | some x => (x.1 : Int) + 1 | none => 0
structure MapIs (D : DataW Unit) (ns : List (Nat × Frm)) : Prop where
  at_ : ∀ n : Int, D.atKey (.int .i64 n) (.lit (.int .i64 0)) = .lit (.int .i64 (blockOf ns n))
  has : ∀ n : Int, Maps.has D (.int .i64 n) = ns.any (fun x => Frm.is n x.2)
  size : Maps.size D = ns.length
def MapAt (w : World) (mb : Nat) (ns : List (Nat × Frm)) : Prop := ∃ D, w.ownsMap Try.prog 3 ptrElem mb ns.length D ∧ MapIs D ns
end Go.Proofs.Ytjjgihaikcnjgaa
