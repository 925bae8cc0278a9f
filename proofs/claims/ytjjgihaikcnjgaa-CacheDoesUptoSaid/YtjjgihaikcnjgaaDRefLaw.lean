/-
  The document's disk as the laws use it: RefAt: it stands as package disk's state s tells.
-/
import Derived.Test.YtjjgihaikcnjgaaDRef5
namespace Go.Proofs.Ytjjgihaikcnjgaa
open Go.RowKit
set_option linter.unusedSimpArgs false
set_option linter.unusedVariables false
set_option maxRecDepth 100000

def RefAt (w : World) (col : Nat → Nat) (c b : Nat) (s : DS) : Prop := ∃ t, DiskAt w 108 col c b t ∧ t.norm = s
theorem RefAt.below {w w' : World} {col : Nat → Nat} {c b : Nat} {s : DS} (k : Below w.heap.size w w') (h : RefAt w col c b s) : RefAt w' col c b s := by
  obtain ⟨t, h, e⟩ := h
  exact ⟨t, h.below k, e⟩
theorem Step.refAt {w w' : World} {c d b : Nat} {s : DS} {col col' : Nat → Nat} (k : Step c col col' w w') (hc : 1 < c) (hd : d + 2 < c ∨ c + 2 < d) (h : RefAt w col d b s) : RefAt w' col' d b s := by
  obtain ⟨t, h, e⟩ := h
  exact ⟨t, k.other hc hd h, e⟩
def RDid (c : Nat) (col : Nat → Nat) (b : Nat) (s : DS) (w w' : World) : Prop := ∃ col', RefAt w' col' c b s ∧ Step c col col' w w'

section
variable {w : World} {col : Nat → Nat} {c b : Nat} {s : DS} (h : RefAt w col c b s) (ok : s.Ok) (hnm : Norm w col)
include h
theorem refoff_law : Calls Try.prog 101 #[.pointer (some ⟨b, 0, none⟩)] w fun e w' => e = .returned (.bool s.off) ∧ w = w' := by
  obtain ⟨t, ⟨pa, pcap, qa, qn, qcap, qs, h⟩, rfl⟩ := h
  rw [norm_off]
  exact refoff_any h
include hnm
theorem refpending_law (hp : s.pending.length ≤ 1073741824) :
    Calls Try.prog 63 #[.pointer (some ⟨b, 0, none⟩)] w fun e w' => (∃ a cap, e = .returned (.slice a s.sectors.length cap) ∧ RdAt w' (Nil0 col) 1 (.slice a s.sectors.length cap) s.sectors.length (s.sectors.map (Value.int .i64))) ∧ Below w.heap.size w w' := by
  obtain ⟨t, h, rfl⟩ := h
  refine (refpending_any w col c b t h hp).mono ?_
  rintro e w' ⟨⟨a, cap, rfl, hs⟩, k⟩
  exact ⟨⟨a, cap, rfl, fresh_rd hnm hs.rd⟩, k⟩
include ok
theorem refwrite_law (hc : 1 < c) (n : Int) (v : Value) (l : List Int) (hv : RdAt w (Nil0 col) 1 v l.length (bcells l)) (hp : s.pending.length ≤ 1073741824) :
    Calls Try.prog 81 #[.pointer (some ⟨b, 0, none⟩), .int .i64 n, v] w fun e w' => e = .returned (.int .i64 (s.wcode n l)) ∧ RDid c col b (s.wrote n l) w w' := by
  obtain ⟨t, h, rfl⟩ := h
  rw [← norm_wrote]
  have hw : t.norm.wcode n l = t.wcode n l := rfl
  rw [hw]
  unfold DS.wcode DS.wrote
  cases hf : t.fit n l with
  | false =>
    have hf' : ¬ (0 ≤ n ∧ n < t.count ∧ (l.length : Int) = t.size) := fun e => by rw [fit_iff.2 e] at hf; cases hf
    refine (refwrite_bad w col c b t n _ v l h hv hf').mono ?_
    rintro e w' ⟨rfl, rfl⟩
    exact ⟨by simp, col, ⟨t, h, by simp⟩, Ext.refl _ _, Chg.refl _ _, hnm⟩
  | true =>
    obtain ⟨h0, h1, h2⟩ := fit_iff.1 hf
    refine (refwrite_ok w col c b t n _ v l h hc (ok_left ok) hv h0 h1 h2 ok.size1 hp (fun k e e' => by unfold Nil0 at e; unfold inC at e'; omega) hnm).mono ?_
    rintro e w' ⟨rfl, ⟨col', hd, he, hn'⟩, hk⟩
    exact ⟨by simp, col', ⟨_, hd, by simp⟩, he, hk, hn'⟩
theorem refflush_law (hc : 1 < c) (hp : s.pending.length ≤ 1073741824) :
    Calls Try.prog 82 #[.pointer (some ⟨b, 0, none⟩)] w fun e w' => e = .returned (.int .i64 s.pending.length) ∧ RDid c col b s.flush w w' := by
  obtain ⟨t, h, rfl⟩ := h
  refine (refflush_any w col c b t h hc ok hp).mono ?_
  rintro e w' ⟨rfl, hd, hk⟩
  exact ⟨rfl, col, ⟨_, hd, norm_flush t⟩, Ext.refl _ _, hk, hnm.grow hk.size⟩
theorem refread_law (hc : 1 < c) (hp : s.pending.length ≤ 1073741824) (n : Int) (hn0 : 0 ≤ n) (hn1 : n < s.count) :
    Calls Try.prog 78 #[.pointer (some ⟨b, 0, none⟩), .int .i64 n] w fun e w' => (∃ a cap, e = .returned (.tuple #[.slice a (s.sector n).length cap, .int .i64 0]) ∧ RdAt w' (Nil0 col) 1 (.slice a (s.sector n).length cap) (s.sector n).length (bcells (s.sector n))) ∧ RefAt w' col c b s.read ∧ Step c col col w w' := by
  obtain ⟨t, h, rfl⟩ := h
  refine (refread_ok w col c b t n h hc ok hp hn0 hn1).mono ?_
  rintro e w' ⟨a, cap, rfl, hs, hd, hk⟩
  exact ⟨⟨a, cap, rfl, fresh_rd hnm hs.rd⟩, ⟨_, hd, norm_read t⟩, Ext.refl _ _, hk, hnm.grow hk.size⟩
end
end Go.Proofs.Ytjjgihaikcnjgaa
