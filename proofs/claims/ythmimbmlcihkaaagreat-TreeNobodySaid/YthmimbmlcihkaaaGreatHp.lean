/-
  Worlds that part from an elder one in some blocks and in new ones alone: small lemmas that the walks of this seat share.
-/
import Derived.Test.YthmimbmlcihkaaaGreatRows
import Derived.WalkKit
import Derived.ProofKit
import Derived.Lib.Hide
namespace Go.Proofs.YthmimbmlcihkaaaGreat
open Go.RowKit

/-- w' is w but for the blocks that 'own' names, and new ones. -/
structure Chg (own : Nat → Prop) (w w' : World) : Prop where
  os : w'.os = w.os
  tape : w'.tape = w.tape
  output : w'.output = w.output
  size : w.heap.size ≤ w'.heap.size
  block : ∀ k, k < w.heap.size → ¬ own k → w'.heap[k]? = w.heap[k]?

theorem Chg.refl (own : Nat → Prop) (w : World) : Chg own w w := ⟨rfl, rfl, rfl, Nat.le_refl _, fun _ _ _ => rfl⟩

/-- two steps; what the second one may turn beyond the first's is new -/
theorem Chg.trans' {own own2 : Nat → Prop} {a b c : World} (h : Chg own a b) (k : Chg own2 b c) (ho : ∀ i, i < a.heap.size → own2 i → own i) : Chg own a c :=
  ⟨k.os.trans h.os, k.tape.trans h.tape, k.output.trans h.output, Nat.le_trans h.size k.size,
    fun i hi hn => (k.block i (Nat.lt_of_lt_of_le hi h.size) (fun e => hn (ho i hi e))).trans (h.block i hi hn)⟩
theorem Chg.trans {own : Nat → Prop} {a b c : World} (h : Chg own a b) (k : Chg own b c) : Chg own a c := h.trans' k fun _ _ x => x
theorem Chg.mono {own own2 : Nat → Prop} {a b : World} (h : Chg own a b) (ho : ∀ i, i < a.heap.size → own i → own2 i) : Chg own2 a b :=
  ⟨h.os, h.tape, h.output, h.size, fun i hi hn => h.block i hi (fun e => hn (ho i hi e))⟩
theorem Chg.below {own : Nat → Prop} {B : Nat} {a b : World} (h : Chg own a b) (hB : B ≤ a.heap.size) (ho : ∀ i, i < B → ¬ own i) : Below B a b :=
  ⟨h.os, h.tape, h.output, h.size, fun i hi => h.block i (Nat.lt_of_lt_of_le hi hB) (ho i hi)⟩
theorem Chg.of_below {own : Nat → Prop} {a b : World} (h : Below a.heap.size a b) : Chg own a b :=
  ⟨h.os, h.tape, h.output, h.size, fun i hi _ => h.block i hi⟩
theorem Chg.of_below' {own : Nat → Prop} {B : Nat} {a b : World} (h : Below B a b) (ho : ∀ i, i < a.heap.size → ¬ own i → i < B) : Chg own a b :=
  ⟨h.os, h.tape, h.output, h.size, fun i hi hn => h.block i (ho i hi hn)⟩
theorem Chg.drew {own : Nat → Prop} {a b : World} (h : Chg own a b) : Chg own a b.drew := ⟨h.os, h.tape, h.output, h.size, h.block⟩
theorem Chg.alloc {own : Nat → Prop} {a b : World} (h : Chg own a b) (o : Obj) : Chg own a (b.alloc o) :=
  h.trans (Chg.of_below ((Below.refl _ _).alloc (Nat.le_refl _) o))
theorem Chg.setCell {own : Nat → Prop} {a b : World} (h : Chg own a b) (p : Addr) (u : Value) (hp : p.block < a.heap.size → own p.block) : Chg own a (b.setCell p u) :=
  h.trans' (own2 := fun i => i = p.block) ⟨rfl, rfl, rfl, by simp, fun k _ hk => Below.heap_setCell _ _ _ _ hk⟩ (fun i hi e => by subst e; exact hp hi)
theorem Chg.cell {own : Nat → Prop} {w w' : World} (h : Chg own w w') {p : Addr} (hp : p.block < w.heap.size) (ho : ¬ own p.block) : w'.cell? p = w.cell? p :=
  World.cell?_of_block (w := w) (h.block p.block hp ho)
theorem Chg.frozen {own : Nat → Prop} {w w' : World} (h : Chg own w w') {p : Addr} (hp : p.block < w.heap.size) (ho : ¬ own p.block) : w'.frozen? p = w.frozen? p :=
  World.frozen?_of_block (w := w) (h.block p.block hp ho)

theorem cell_lt {w : World} {p : Addr} {v : Value} (h : w.cell? p = some v) : p.block < w.heap.size := by
  by_cases hb : p.block < w.heap.size
  · exact hb
  · simp [World.cell?, Array.getElem?_eq_none (Nat.le_of_not_lt hb)] at h

/-- a block that is known whole: its cells -/
theorem cell_of_block {w : World} {b : Nat} {cs : Array Value} {t : TypeId} {fr : Nat × Nat} (h : w.heap[b]? = some (.cells cs t fr)) (i : Nat) : w.cell? ⟨b, i, none⟩ = cs[i]? := by
  simp [World.cell?, h]
theorem free_of_block {w : World} {b : Nat} {cs : Array Value} {t : TypeId} (h : w.heap[b]? = some (.cells cs t (0, 0))) (i : Nat) : w.frozen? ⟨b, i, none⟩ = false := by
  simp [World.frozen?, h]
theorem lt_of_block {w : World} {b : Nat} {o : Obj} (h : w.heap[b]? = some o) : b < w.heap.size := by
  by_cases hb : b < w.heap.size
  · exact hb
  · simp [Array.getElem?_eq_none (Nat.le_of_not_lt hb)] at h
theorem block_new (w : World) (o : Obj) : (w.alloc o).heap[w.heap.size]? = some o := by
  show (w.heap.push o)[w.heap.size]? = _
  simp
theorem block_old {w : World} {b : Nat} {o : Obj} (x : Obj) (h : w.heap[b]? = some o) : (w.alloc x).heap[b]? = some o := by
  rw [Below.heap_alloc _ _ _ (lt_of_block h)]; exact h
theorem block_drew {w : World} {b : Nat} {o : Obj} (h : w.heap[b]? = some o) : w.drew.heap[b]? = some o := h
theorem block_set {w : World} {b : Nat} {cs : Array Value} {t : TypeId} {fr : Nat × Nat} (h : w.heap[b]? = some (.cells cs t fr)) (i : Nat) (v : Value) :
    (w.setCell ⟨b, i, none⟩ v).heap[b]? = some (.cells (cs.setIfInBounds i v) t fr) := by
  simp only [World.setCell, Array.getElem?_modify]
  simp [h]
theorem block_set_other {w : World} {b : Nat} {o : Obj} (h : w.heap[b]? = some o) (p : Addr) (v : Value) (hp : b ≠ p.block) : (w.setCell p v).heap[b]? = some o := by
  rw [Below.heap_setCell _ _ _ _ hp]; exact h
theorem Chg.keeps {own : Nat → Prop} {w w' : World} (h : Chg own w w') {b : Nat} {o : Obj} (hb : w.heap[b]? = some o) (ho : ¬ own b) : w'.heap[b]? = some o := by
  rw [h.block b (lt_of_block hb) ho]; exact hb
theorem below_keeps {B : Nat} {w w' : World} (h : Below B w w') {b : Nat} {o : Obj} (hb : w.heap[b]? = some o) (ho : b < B) : w'.heap[b]? = some o := by
  rw [h.block b ho]; exact hb
theorem Chg.belowAt {b : Nat} {a c : World} (h : Chg (· = b) a c) (hb : b < a.heap.size) : Below b a c := h.below (Nat.le_of_lt hb) (fun i hi e => by omega)
/-- what a call owns stays owned while nothing of what there is turns -/
theorem ownsRow_below {w w' : World} {base : Nat} {e : TypeId} {size : Nat} {v : Value} {n : Nat} {xs : List Value} (h : w.ownsRow base e size v n xs) (hb : Below w.heap.size w w') : w'.ownsRow base e size v n xs := by
  obtain ⟨h1, h2⟩ := h
  refine ⟨h1, ?_⟩
  rcases h2 with h2 | ⟨g, cap, cur, hv, hg, hh, r⟩
  · exact Or.inl h2
  · exact Or.inr ⟨g, cap, cur, hv, hg, below_keeps hb hh (lt_of_block hh), r⟩
theorem below_grow {B : Nat} {a b c : World} (h : Below B a b) (hB : B ≤ a.heap.size) (k : Below b.heap.size b c) : Below B a c := h.trans (k.mono (Nat.le_trans hB h.size))
/-- the call answers a slice of its own that reads so -/
def TellsRow (base : Nat) (t : TypeId) (size : Nat) (n : Nat) (xs : List Value) (e : Ending) (w' : World) : Prop := ∃ a cap, e = .returned (.slice a n cap) ∧ w'.ownsRow base t size (.slice a n cap) n xs
theorem tellsRow_mk {base : Nat} {t : TypeId} {size n : Nat} {xs : List Value} {v : Value} {w' : World} (h : w'.ownsRow base t size v n xs) : TellsRow base t size n xs (.returned v) w' := by
  obtain ⟨h1, h2⟩ := h
  rcases h2 with ⟨rfl, rfl⟩ | ⟨g, cap, cur, rfl, r⟩
  · exact ⟨none, 0, rfl, h1, Or.inl ⟨rfl, rfl⟩⟩
  · exact ⟨_, cap, rfl, h1, Or.inr ⟨g, cap, cur, rfl, r⟩⟩
/-- a row that is not empty lies somewhere, and its cells read so -/
theorem ownsRow_some {w : World} {base : Nat} {t : TypeId} {size n : Nat} {xs : List Value} {a : Option Addr} {cap : Nat} (h : w.ownsRow base t size (.slice a n cap) n xs) (hn : 0 < n) :
    ∃ g, a = some ⟨g, 0, none⟩ ∧ base ≤ g ∧ g < w.heap.size ∧ ∀ (j : Nat) u, xs[j]? = some u → w.cell? ⟨g, j, none⟩ = some u := by
  obtain ⟨h1, h2⟩ := h
  rcases h2 with ⟨h2, h3⟩ | ⟨g, cap, cur, hv, hg, hh, r1, r2, r3, r4⟩
  · omega
  · injection hv with hv _ _
    refine ⟨g, hv, hg, lt_of_block hh, ?_⟩
    intro j u hj
    rw [cell_of_block hh]
    rw [← r4, List.getElem?_take] at hj
    split at hj
    · simpa using hj
    · simp at hj
theorem news_at (W : World) (news : List Value) (t : TypeId) : ∀ (j : Nat) (u : Value), news[j]? = some u → (W.alloc (.cells news.toArray t)).cell? ((⟨W.heap.size, 0, none⟩ : Addr).add j) = some u := by
  intro j u hu
  rw [show ((⟨W.heap.size, 0, none⟩ : Addr).add j) = ⟨W.heap.size, j, none⟩ by unfold Addr.add; split <;> simp_all]
  rw [cell_of_block (block_new _ _)]
  simpa using hu
/-- 'append(s, x..)': s is the call's own, the new cells have just been laid -/
theorem wpList_append_new {P : Program} {ops : Array Oper} {rest : List Oper} {o : Oper} {a : Act} {Q : Exit → Act → World → Prop} (hgd : o.guard = none) (s x : Operand) (t : TypeId)
    (ho : o.op = .call { callee := .builtin .append, args := #[s, x], argTypes := #[t, t] })
    (base : Nat) (e : TypeId) (i : TypeInfo) (z : Value) (size bytes : Nat) (ht : P.underlying t = some (.slice e)) (hi : P.info? e = some i) (hz : i.zero = some z)
    (hsize : i.size = size) (hby : i.bytes = bytes) (hzs : z.cells.size = size) (hsz : 0 < size)
    (v : Value) (n : Nat) (xs : List Value) (hs : a.eval s = v) (W : World) (hown : W.ownsRow base e size v n xs)
    (m c g : Nat) (news : List Value) (te : TypeId) (hx : a.eval x = .slice (some ⟨g, 0, none⟩) m c) (hg : g = W.heap.size) (hl : news.length = m * size) (h1 : ∀ u ∈ news, u.oneCell' = true)
    (h63 : n + m ≤ maxLen) (hbytes : (n + m) * bytes ≤ 140737488355328) (hbase : base ≤ W.heap.size)
    (h : ∀ v' w', w'.ownsRow base e size v' (n + m) (xs ++ news) → Below base W w' → wpList P ops Q rest (a.put o.dst v') w') : wpList P ops Q (o :: rest) a (W.alloc (.cells news.toArray te)) := by
  subst hg
  refine wpList_append_own _ hgd s x t ho base e i z size bytes ht hi hz hsize hby hzs hsz v n xs hs (hown.alloc _) ⟨W.heap.size, 0, none⟩ m c news hx hl (news_at _ _ _) h1 h63 hbytes (by simp; omega) ?_
  intro v' w' h2 h3 _
  refine h v' w' h2 ?_
  refine (Below.grown (B := base) ((Below.refl _ _).alloc hbase _) h3 (by simp; omega) ?_)
  intro k hk
  exact (hown.lt k hk).1
/-- a draw ahead -/
theorem below_undrew {w w' : World} (h : Below w.drew.heap.size w.drew w') : Below w.heap.size w w' := ⟨h.os, h.tape, h.output, h.size, h.block⟩
theorem Chg.undrew {own : Nat → Prop} {w w' : World} (h : Chg own w.drew w') : Chg own w w' := ⟨h.os, h.tape, h.output, h.size, h.block⟩
end Go.Proofs.YthmimbmlcihkaaaGreat
