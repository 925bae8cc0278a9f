/-
  A cache in memory as a whole; made, use, drop.
-/
import Derived.Test.YtjjgihaikcnjgaaCRing
namespace Go.Proofs.Ytjjgihaikcnjgaa
open Go.RowKit Go.Maps
set_option linter.unusedSimpArgs false
set_option linter.unusedVariables false
set_option maxRecDepth 100000

/-- the colours of a cache with its disk -/
def inK (col : Nat → Nat) (c : Nat) (k : Nat) : Prop := c ≤ col k ∧ col k ≤ c + 4
structure KStep (c : Nat) (col col' : Nat → Nat) (w w' : World) : Prop where
  ext : Ext w.heap.size col col'
  chg : Chg (inK col c) w w'
  norm : Norm w' col'
theorem KStep.refl {w : World} {col : Nat → Nat} (c : Nat) (h : Norm w col) : KStep c col col w w := ⟨Ext.refl _ _, Chg.refl _ _, h⟩
theorem KStep.trans {a b d : World} {c : Nat} {col col' col'' : Nat → Nat} (h : KStep c col col' a b) (k : KStep c col' col'' b d) : KStep c col col'' a d :=
  ⟨h.ext.trans k.ext h.chg.size, h.chg.trans' k.chg (fun i hi e => by unfold inK at *; rw [h.ext i hi] at e; exact e), k.norm⟩
theorem KStep.below {w w' : World} {c : Nat} {col : Nat → Nat} (h : Norm w col) (k : Below w.heap.size w w') : KStep c col col w w' := ⟨Ext.refl _ _, Chg.of_below k, h.grow k.size⟩
theorem KStep.of {w w' : World} {c : Nat} {col : Nat → Nat} {own : Nat → Prop} (h : Norm w col) (k : Chg own w w') (ho : ∀ i, own i → inK col c i) : KStep c col col w w' := ⟨Ext.refl _ _, k.mono (fun i _ e => ho i e), h.grow k.size⟩
theorem Step.k {w w' : World} {c : Nat} {col col' : Nat → Nat} (h : Step c col col' w w') : KStep c col col' w w' := ⟨h.ext, h.chg.mono (fun i _ e => by unfold inC at e; unfold inK; omega), h.norm⟩

structure CacheIn (w : World) (col : Nat → Nat) (c b : Nat) (s : CS) (db rb mb : Nat) (ns : List (Nat × Frm)) : Prop where
  block : w.heap[b]? = some (.cells (cacheC db rb mb s) 58 (0, 0))
  cb : col b = c + 3
  disk : DiskAt w 86 col c db s.d
  fr : ns.map Prod.snd = s.frames
  ring : RingAt w col rb ns
  cr : ∀ k ∈ blks ((rb, f0) :: ns), col k = c + 3
  map : MapAt w mb ns
  cm : col mb = c + 3
def CacheAt (w : World) (col : Nat → Nat) (c b db : Nat) (s : CS) : Prop := ∃ rb mb ns, CacheIn w col c b s db rb mb ns

theorem MapAt.keep {w w' : World} {mb : Nat} {ns : List (Nat × Frm)} (h : MapAt w mb ns) (hk : w'.heap[mb]? = w.heap[mb]?) : MapAt w' mb ns := by
  obtain ⟨D, ⟨es, clock, hb, r⟩, m⟩ := h
  exact ⟨D, ⟨es, clock, hk.trans hb, r⟩, m⟩
theorem MapAt.raw {w : World} {mb : Nat} {ns : List (Nat × Frm)} (h : MapAt w mb ns) : ∃ es clock, w.heap[mb]? = some (.map es clock) := by
  obtain ⟨D, ⟨es, clock, hb, r⟩, m⟩ := h; exact ⟨es, clock, hb⟩
theorem MapAt.lt {w : World} {mb : Nat} {ns : List (Nat × Frm)} (h : MapAt w mb ns) : mb < w.heap.size := by obtain ⟨_, _, h⟩ := h.raw; exact lt_of_block h
theorem Seg.rawAt {w : World} {col : Nat → Nat} : ∀ {ns : List (Nat × Frm)} {p q : Nat}, Seg w col p ns q → ∀ b ∈ blks ns, ∃ p q f v, w.heap[b]? = some (.cells (nodeC p q f v) 78 (0, 0))
  | [], _, _, _, _, hb => by simp [blks] at hb
  | x :: ns, p, q, h, b, hb => by
    simp only [blks, List.map_cons, List.mem_cons] at hb
    rcases hb with rfl | hb
    · obtain ⟨v, h1⟩ := h.1.raw; exact ⟨_, _, _, v, h1⟩
    · exact Seg.rawAt h.2 b hb
section
variable {w : World} {col : Nat → Nat} {c b db rb mb : Nat} {s : CS} {ns : List (Nat × Frm)}
theorem CacheIn.lt (h : CacheIn w col c b s db rb mb ns) : b < w.heap.size := lt_of_block h.block
theorem CacheIn.nb (h : CacheIn w col c b s db rb mb ns) : b ∉ blks ((rb, f0) :: ns) := fun e => by
  obtain ⟨_, _, _, _, h1⟩ := h.ring.seg.rawAt b e
  rw [h.block] at h1; cases h1
theorem CacheIn.nm (h : CacheIn w col c b s db rb mb ns) : mb ∉ blks ((rb, f0) :: ns) := fun e => by
  obtain ⟨_, _, _, _, h1⟩ := h.ring.seg.rawAt mb e
  obtain ⟨_, _, h2⟩ := h.map.raw
  rw [h2] at h1; cases h1
theorem CacheIn.bm (h : CacheIn w col c b s db rb mb ns) : b ≠ mb := fun e => by
  obtain ⟨_, _, h2⟩ := h.map.raw
  rw [← e, h.block] at h2; cases h2
theorem CacheIn.keep {w' : World} {col' : Nat → Nat} (h : CacheIn w col c b s db rb mb ns) (hk : ∀ k, k < w.heap.size → (col k = 1 ∨ inK col c k) → w'.heap[k]? = w.heap[k]?) (ho : Ext w.heap.size col col') (hs : w.heap.size ≤ w'.heap.size) : CacheIn w' col' c b s db rb mb ns := by
  have inr : ∀ k, col k = c + 3 → inK col c k := fun k e => by unfold inK; omega
  refine ⟨(hk b h.lt (Or.inr (inr _ h.cb))).trans h.block, by rw [ho b h.lt]; exact h.cb, h.disk.keep (fun k hk' e => hk k hk' (e.imp id (fun e => by unfold inC at e; unfold inK; omega))) ho hs, h.fr, h.ring.keep (fun k hk' e => hk k hk' (e.imp id (fun e => inr _ (h.cr k e)))) ho hs, fun k e => by rw [ho k (h.ring.lt k e)]; exact h.cr k e, h.map.keep (hk mb h.map.lt (Or.inr (inr _ h.cm))), by rw [ho mb h.map.lt]; exact h.cm⟩
theorem CacheIn.below {w' : World} (h : CacheIn w col c b s db rb mb ns) (k : Below w.heap.size w w') : CacheIn w' col c b s db rb mb ns := h.keep (fun i hi _ => k.block i hi) (Ext.refl _ _) k.size
/-- what another one does leaves it -/
theorem CacheIn.other {w' : World} {col' : Nat → Nat} {d : Nat} (h : CacheIn w col c b s db rb mb ns) (k : KStep d col col' w w') (hd : c + 4 < d ∨ d + 4 < c) (h1 : 1 < d) : CacheIn w' col' c b s db rb mb ns :=
  h.keep (fun i hi e => k.chg.block i hi (fun e' => by unfold inK at e e'; omega)) k.ext k.chg.size
/-- only blocks of the ring were turned -/
theorem CacheIn.ringed {w' : World} {own : Nat → Prop} {ns' : List (Nat × Frm)} {s' : CS} (h : CacheIn w col c b s db rb mb ns) (hc : 1 < c) (k : Chg own w w') (ho : ∀ i, own i → i < w.heap.size → col i = c + 3 ∧ i ≠ b ∧ i ≠ mb) (hr : RingAt w' col rb ns') (hcr : ∀ k ∈ blks ((rb, f0) :: ns'), col k = c + 3)
    (hm : MapAt w mb ns') (hs : cacheC db rb mb s' = cacheC db rb mb s) (hd : s'.d = s.d) (hf : ns'.map Prod.snd = s'.frames) : CacheIn w' col c b s' db rb mb ns' := by
  have hk : ∀ i, i < w.heap.size → col i ≠ c + 3 → w'.heap[i]? = w.heap[i]? := fun i hi e => k.block i hi (fun e' => e (ho i e' hi).1)
  refine ⟨?_, h.cb, ?_, hf, hr, hcr, hm.keep (k.block mb h.map.lt (fun e => (ho mb e h.map.lt).2.2 rfl)), h.cm⟩
  · rw [k.block b h.lt (fun e => (ho b e h.lt).2.1 rfl), hs]; exact h.block
  · rw [hd]
    exact h.disk.keep (fun i hi e => hk i hi (fun e' => by unfold inC at e; omega)) (Ext.refl _ _) k.size
/-- the struct's own cells were turned -/
theorem CacheIn.cells {w' : World} {s' : CS} (h : CacheIn w col c b s db rb mb ns) (hc : 1 < c) (k : Chg (fun i => i = b) w w') (hb : w'.heap[b]? = some (.cells (cacheC db rb mb s') 58 (0, 0))) (hd : s'.d = s.d) (hf : s'.frames = s.frames) : CacheIn w' col c b s' db rb mb ns := by
  have hcb := h.cb
  have hnb := h.nb
  have hbm := h.bm
  refine ⟨hb, h.cb, ?_, by rw [hf]; exact h.fr, h.ring.keep (fun i hi e => k.block i hi (fun e' => ?_)) (Ext.refl _ _) k.size, h.cr, h.map.keep (k.block mb h.map.lt (fun e => hbm e.symm)), h.cm⟩
  · rw [hd]; exact h.disk.keep (fun i hi e => k.block i hi (fun e' => by subst e'; unfold inC at e; omega)) (Ext.refl _ _) k.size
  · subst e'
    rcases e with e | e
    · omega
    · exact hnb e
/-- the disk was turned -/
theorem CacheIn.disked {w' : World} {col' : Nat → Nat} {d' : DS} (h : CacheIn w col c b s db rb mb ns) (hc : 1 < c) (k : Step c col col' w w') (hd : DiskAt w' 86 col' c db d') : CacheIn w' col' c b { s with d := d' } db rb mb ns := by
  have hcb := h.cb
  have hk : ∀ i, i < w.heap.size → (col i = 1 ∨ col i = c + 3) → w'.heap[i]? = w.heap[i]? := fun i hi e => k.chg.block i hi (fun e' => by unfold inC at e'; omega)
  exact ⟨(hk b h.lt (Or.inr h.cb)).trans h.block, by rw [k.ext b h.lt]; exact h.cb, hd, h.fr, h.ring.keep (fun i hi e => hk i hi (e.imp id (h.cr i))) k.ext k.chg.size, fun i e => by rw [k.ext i (h.ring.lt i e)]; exact h.cr i e, h.map.keep (hk mb h.map.lt (Or.inr h.cm)), by rw [k.ext mb h.map.lt]; exact h.cm⟩
end
/-- nothing more than order: what is looked up by sector stays -/
theorem find_mem {α : Type} {p : α → Bool} {l : List α} (hu : ∀ x ∈ l, ∀ y ∈ l, p x = true → p y = true → x = y) {x : α} (hx : x ∈ l) (hp : p x = true) : l.find? p = some x := by
  cases h : l.find? p with
  | none => rw [List.find?_eq_none] at h; exact absurd hp (by simpa using h x hx)
  | some y => rw [hu y (List.mem_of_find?_eq_some h) x hx (List.find?_some h) hp]
theorem find_perm {α : Type} {p : α → Bool} {l m : List α} (hm : ∀ x, x ∈ l ↔ x ∈ m) (hu : ∀ x ∈ l, ∀ y ∈ l, p x = true → p y = true → x = y) : m.find? p = l.find? p := by
  cases h : l.find? p with
  | none => rw [List.find?_eq_none] at h ⊢; exact fun x hx => h x ((hm x).2 hx)
  | some x => exact find_mem (fun a ha b hb => hu a ((hm a).2 ha) b ((hm b).2 hb)) ((hm x).1 (List.mem_of_find?_eq_some h)) (List.find?_some h)
/-- no sector twice -/
def Apart (ns : List (Nat × Frm)) : Prop := (ns.map (fun x => x.2.sector)).Nodup
theorem Apart.uniq {ns : List (Nat × Frm)} (h : Apart ns) : ∀ x ∈ ns, ∀ y ∈ ns, x.2.sector = y.2.sector → x = y := by
  induction ns with
  | nil => intro x hx; simp at hx
  | cons z ns ih =>
    have h' := List.nodup_cons.1 h
    intro x hx y hy e
    have hn := h'.1
    rcases List.mem_cons.1 hx with ex | hx
    · rcases List.mem_cons.1 hy with ey | hy
      · rw [ex, ey]
      · exact absurd (List.mem_map_of_mem (f := fun x : Nat × Frm => x.2.sector) hy) (by subst ex; simp only [← e]; exact hn)
    · rcases List.mem_cons.1 hy with ey | hy
      · exact absurd (List.mem_map_of_mem (f := fun x : Nat × Frm => x.2.sector) hx) (by subst ey; simp only [e]; exact hn)
      · exact ih h'.2 x hx y hy e
theorem Apart.is {ns : List (Nat × Frm)} (h : Apart ns) (n : Int) : ∀ x ∈ ns, ∀ y ∈ ns, Frm.is n x.2 = true → Frm.is n y.2 = true → x = y := fun x hx y hy e1 e2 => by
  simp only [Frm.is, beq_iff_eq] at e1 e2
  exact h.uniq x hx y hy (e1.trans e2.symm)
theorem MapIs.perm {D : DataW Unit} {ns ms : List (Nat × Frm)} (h : MapIs D ns) (ha : Apart ns) (hp : ns.Perm ms) : MapIs D ms := by
  refine ⟨fun n => ?_, fun n => ?_, by rw [h.size, hp.length_eq]⟩
  · rw [h.at_ n]; unfold blockOf
    rw [find_perm (fun x => hp.mem_iff) (ha.is n)]
  · rw [h.has n]
    rw [Bool.eq_iff_iff, List.any_eq_true, List.any_eq_true]
    exact ⟨fun ⟨x, hx, e⟩ => ⟨x, hp.mem_iff.1 hx, e⟩, fun ⟨x, hx, e⟩ => ⟨x, hp.mem_iff.2 hx, e⟩⟩
theorem MapAt.perm {w : World} {mb : Nat} {ns ms : List (Nat × Frm)} (h : MapAt w mb ns) (ha : Apart ns) (hp : ns.Perm ms) : MapAt w mb ms := by
  obtain ⟨D, hd, hm⟩ := h
  exact ⟨D, by rw [← hp.length_eq]; exact hd, hm.perm ha hp⟩
theorem perm_last {α : Type} (l1 l2 : List α) (x : α) : (l1 ++ x :: l2).Perm (l1 ++ l2 ++ [x]) := by
  rw [List.append_assoc]
  exact List.Perm.append_left l1 (List.perm_append_comm (l₁ := [x]) (l₂ := l2))
theorem blks_mem {rb : Nat} {l1 l2 : List (Nat × Frm)} {x : Nat × Frm} (k : Nat) : k ∈ blks ((rb, f0) :: (l1 ++ l2 ++ [x])) ↔ k ∈ blks ((rb, f0) :: (l1 ++ x :: l2)) := by
  simp [blks, or_assoc, or_comm, or_left_comm]
end Go.Proofs.Ytjjgihaikcnjgaa
