/-
  add of package cache; and what frames and nodes have to do with each other.
-/
import Derived.Test.YtjjgihaikcnjgaaCTurn
namespace Go.Proofs.Ytjjgihaikcnjgaa
open Go.RowKit Go.Maps
set_option linter.unusedSimpArgs false
set_option linter.unusedVariables false
set_option maxRecDepth 100000

def colA (col : Nat → Nat) (n c : Nat) (k : Nat) : Nat := if k = n then c + 3 else col k
theorem colA_ext (col : Nat → Nat) (n c : Nat) : Ext n col (colA col n c) := fun k hk => by unfold colA; rw [if_neg (by omega)]
theorem colA_at (col : Nat → Nat) (n c : Nat) : colA col n c n = c + 3 := by unfold colA; rw [if_pos rfl]
section
variable {w : World} {col : Nat → Nat} {c b db rb mb : Nat} {s : CS} {ns : List (Nat × Frm)}
set_option maxHeartbeats 1000000 in
theorem add_any (h : CacheIn w col c b s db rb mb ns) (hc : 1 < c) (hnm : Norm w col) (hlen : ns.length ≤ 4096) (n : Int) (v : Value) (l : List Int) (hby : BytesAt w (fun k => col k = 1) v l) (hn : 0 ≤ n ∧ n < 4097) (hno : ∀ y ∈ ns, Frm.is n y.2 = false) :
    Calls Try.prog 38 #[ptr b, .int .i64 n, v] w fun e w' => e = .returned (ptr w.heap.size) ∧ CacheIn w' (colA col w.heap.size c) c b (s.added ⟨n, 0, false, 0, l⟩) db rb mb (ns ++ [(w.heap.size, ⟨n, 0, false, 0, l⟩)]) ∧ KStep c col (colA col w.heap.size c) w w' := by
  have hnb := h.nb
  have hnmm := h.nm
  have hbm := h.bm
  have hcm := h.cm
  have hml := h.map.lt
  have hbl := h.lt
  have hrl := h.ring.lt
  obtain ⟨av, capv, rfl⟩ := hby.shape
  obtain ⟨D, hown, hD⟩ := h.map
  have htidy := hown.tidy law3
  obtain ⟨-, -, -, c3, -, -, -, -, -⟩ := cells_cache h.block
  have HKEY := Lib.hid (key_in hn)
  have HNO := Lib.hid hno
  have HC := Lib.hid hc
  have HF : Hid (∀ w2 : World, w2.ownsMap Try.prog 3 ptrElem mb (ns.length + 1) (D.put (.int .i64 n) (.lit (.int .i64 ((w.heap.size : Int) + 1)))) → (w.alloc (.cells (nodeV (.pointer none) (.pointer none) ⟨n, 0, false, 0, l⟩ (.slice av l.length capv)) 78)).grownBy w2 (some mb) →
      Calls Try.prog 67 #[ptr b, ptr w.heap.size] w2 fun e w' => e = .returned (.tuple #[]) ∧ CacheIn w' (colA col w.heap.size c) c b (s.added ⟨n, 0, false, 0, l⟩) db rb mb (ns ++ [(w.heap.size, ⟨n, 0, false, 0, l⟩)]) ∧ KStep c col (colA col w.heap.size c) w w') := fun w2 hown2 hg2 => by
    have kA : Below w.heap.size w (w.alloc (.cells (nodeV (.pointer none) (.pointer none) ⟨n, 0, false, 0, l⟩ (.slice av l.length capv)) 78)) := (Below.refl _ _).alloc (Nat.le_refl _) _
    have bA := block_new w (.cells (nodeV (.pointer none) (.pointer none) ⟨n, 0, false, 0, l⟩ (.slice av l.length capv)) 78 (0, 0))
    have sA : (w.alloc (.cells (nodeV (.pointer none) (.pointer none) ⟨n, 0, false, 0, l⟩ (.slice av l.length capv)) 78)).heap.size = w.heap.size + 1 := by simp
    generalize w.alloc (.cells (nodeV (.pointer none) (.pointer none) ⟨n, 0, false, 0, l⟩ (.slice av l.length capv)) 78) = wA at *
    have s2 := hg2.size
    have hk2 : ∀ k, k < w.heap.size → k ≠ mb → w2.heap[k]? = w.heap[k]? := fun k hk hne => (hg2.block k (by omega) (by simpa using hne)).trans (kA.block k hk)
    have hx2 : w2.heap[w.heap.size]? = some (.cells (nodeV (.pointer none) (.pointer none) ⟨n, 0, false, 0, l⟩ (.slice av l.length capv)) 78 (0, 0)) := (hg2.block _ (by omega) (by simp; omega)).trans bA
    have hB2 : w2.heap[b]? = some (.cells (cacheC db rb mb s) 58 (0, 0)) := (hk2 b hbl hbm).trans h.block
    have ext := colA_ext col w.heap.size c
    have hR2 : RingAt w2 (colA col w.heap.size c) rb ns := h.ring.keep (fun k hk e => hk2 k hk (fun e' => by
      subst e'
      rcases e with e | e
      · omega
      · exact hnmm e)) ext (by omega)
    have hby2 : BytesAt w2 (fun k => colA col w.heap.size c k = 1) (.slice av l.length capv) l := RdAt.keep hby (fun k hk e => hk2 k hk (fun e' => by subst e'; omega)) (fun k hk e => by rw [ext k hk]; exact e) (by omega)
    have hNb : w.heap.size ∉ blks ((rb, f0) :: ns) := fun e => by have := hrl _ e; omega
    refine (last_any w2 (colA col w.heap.size c) b db mb rb w.heap.size _ _ _ s ⟨n, 0, false, 0, l⟩ ns hB2 hR2 hx2 hby2 hNb (by rw [colA_at]; omega)).mono ?_
    rintro e w3 ⟨rfl, r3, k3, z3⟩
    have hcr3 : ∀ k ∈ blks ((rb, f0) :: (ns ++ [(w.heap.size, (⟨n, 0, false, 0, l⟩ : Frm))])), colA col w.heap.size c k = c + 3 := fun k hk => by
      have hk' : k ∈ blks ((rb, f0) :: ns) ∨ k = w.heap.size := by
        simp only [blks, List.map_cons, List.map_append, List.mem_cons, List.mem_append, List.map_nil, List.not_mem_nil, or_false] at hk ⊢
        rcases hk with h | h | h
        · exact Or.inl (Or.inl h)
        · exact Or.inl (Or.inr h)
        · exact Or.inr h
      rcases hk' with hk' | rfl
      · rw [ext k (hrl k hk')]; exact h.cr k hk'
      · exact colA_at _ _ _
    have hnb3 : ∀ k, k < w.heap.size → k ∉ blks ((rb, f0) :: ns) → k ∉ blks ((rb, f0) :: (ns ++ [(w.heap.size, (⟨n, 0, false, 0, l⟩ : Frm))])) := fun k hk hne e => by
      simp only [blks, List.map_cons, List.map_append, List.mem_cons, List.mem_append, List.map_nil, List.not_mem_nil, or_false, not_or] at e hne
      rcases e with e | e | e
      · exact hne.1 e
      · exact hne.2 e
      · omega
    have hm2 : MapAt w2 mb (ns ++ [(w.heap.size, (⟨n, 0, false, 0, l⟩ : Frm))]) := by
      have hp := hD.put (x := (w.heap.size, (⟨n, 0, false, 0, l⟩ : Frm))) HNO.out htidy (by trivial)
      refine ⟨_, ?_, hp⟩
      have := exact_map hown2
      rwa [hp.size] at this
    refine ⟨rfl, ⟨?_, by rw [ext b hbl]; exact h.cb, ?_, by simp [CS.added, h.fr], r3, hcr3, ?_, by rw [ext mb hml]; exact hcm⟩, ?_⟩
    · exact (k3.block b (by omega) (hnb3 b hbl hnb)).trans hB2
    · refine h.disk.keep (fun k hk e => ?_) ext (by omega)
      have h1 : k ≠ mb := fun e' => by subst e'; unfold inC at e; omega
      have h2 : k ∉ blks ((rb, f0) :: ns) := fun e' => by have := h.cr k e'; unfold inC at e; omega
      exact (k3.block k (by omega) (hnb3 k hk h2)).trans (hk2 k hk h1)
    · exact hm2.keep (k3.block mb (by omega) (hnb3 mb hml hnmm))
    · refine ⟨ext, ?_, fun k hk => by unfold colA; rw [if_neg (by omega)]; exact hnm k (by omega)⟩
      have k12 : Chg (fun k => k = mb) w w2 := ⟨hg2.os.trans kA.os, hg2.tape.trans kA.tape, hg2.output.trans kA.output, by omega, fun k hk hne => hk2 k hk hne⟩
      refine (k12.mono (fun i _ e => by subst e; unfold inK; omega)).trans' k3 (fun i hi e => ?_)
      have := hcr3 i e
      rw [ext i hi] at this
      unfold inK; omega
  have HOWN := Lib.hid hown
  clear hn hno hby hown hD h hcm hrl hnb hnmm hbm
  unfold ptr at *
  go_enter Try.func38, Try.ntmps38
  go_wp2_with (at_mapUpdate; refine wpList_mapUpdate_own _ rfl _ _ _ 54 rfl 3 53 law3 Try.underlying54 ptrElem mb ns.length D rfl ?_ (by unfold maxLen; omega) _ _ _ rfl rfl HKEY.out _ [] (ptrElem_ptr _) ?_; exact HOWN.out.alloc _; intro w2 hown2 hg2)
  refine (HF.out w2 hown2 hg2).mono ?_
  rintro e w3 ⟨rfl, h3, k3⟩
  have H3 := Lib.hid h3
  have K3 := Lib.hid k3
  clear h3 k3
  go_wp2_with fail
  go_ret
  exact ⟨rfl, H3.out, K3.out⟩
end
end Go.Proofs.Ytjjgihaikcnjgaa
