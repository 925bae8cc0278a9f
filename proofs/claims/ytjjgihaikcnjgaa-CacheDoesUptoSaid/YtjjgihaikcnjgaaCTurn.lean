/-
  One frame of a cache is turned in its place.
-/
import Derived.Test.YtjjgihaikcnjgaaCWalk2
namespace Go.Proofs.Ytjjgihaikcnjgaa
open Go.RowKit Go.Maps
set_option linter.unusedSimpArgs false
set_option linter.unusedVariables false
set_option maxRecDepth 100000

theorem blks_turn {rb : Nat} {l1 l2 : List (Nat × Frm)} {x : Nat × Frm} {f' : Frm} : blks ((rb, f0) :: (l1 ++ (x.1, f') :: l2)) = blks ((rb, f0) :: (l1 ++ x :: l2)) := by simp [blks]
theorem lst_turn {p : Nat} {l1 l2 : List (Nat × Frm)} {x : Nat × Frm} {f' : Frm} : lst p (l1 ++ (x.1, f') :: l2) = lst p (l1 ++ x :: l2) := by rw [lst_append, lst_append]; rfl
theorem MapIs.turn {D : DataW Unit} {l1 l2 : List (Nat × Frm)} {x : Nat × Frm} {f' : Frm} (h : MapIs D (l1 ++ x :: l2)) (hs : f'.sector = x.2.sector) : MapIs D (l1 ++ (x.1, f') :: l2) := by
  have his : ∀ n, Frm.is n f' = Frm.is n x.2 := fun n => by simp [Frm.is, hs]
  refine ⟨fun n => ?_, fun n => ?_, by rw [h.size]; simp⟩
  · rw [h.at_ n]
    unfold blockOf
    rw [List.find?_append, List.find?_append, List.find?_cons, List.find?_cons]
    simp only [his]
    cases l1.find? (fun x => Frm.is n x.2) with
    | some y => rfl
    | none => cases Frm.is n x.2 <;> rfl
  · rw [h.has n]; simp [List.any_append, his]
theorem MapAt.turn {w : World} {mb : Nat} {l1 l2 : List (Nat × Frm)} {x : Nat × Frm} {f' : Frm} (h : MapAt w mb (l1 ++ x :: l2)) (hs : f'.sector = x.2.sector) : MapAt w mb (l1 ++ (x.1, f') :: l2) := by
  obtain ⟨D, hd, hm⟩ := h
  exact ⟨D, by simpa using hd, hm.turn hs⟩
theorem Apart.turn {l1 l2 : List (Nat × Frm)} {x : Nat × Frm} {f' : Frm} (h : Apart (l1 ++ x :: l2)) (hs : f'.sector = x.2.sector) : Apart (l1 ++ (x.1, f') :: l2) := by
  unfold Apart at *; simpa [hs] using h
section
variable {w : World} {col : Nat → Nat} {c b db rb mb : Nat} {s : CS}
theorem CacheIn.node {l1 l2 : List (Nat × Frm)} {x : Nat × Frm} (h : CacheIn w col c b s db rb mb (l1 ++ x :: l2)) : NodeAt w col x.1 (lst rb l1) (hd l2 rb) x.2 :=
  Seg.mid (a := (rb, f0) :: l1) h.ring.seg
theorem CacheIn.mem {l1 l2 : List (Nat × Frm)} {x : Nat × Frm} (h : CacheIn w col c b s db rb mb (l1 ++ x :: l2)) : x.1 ∈ blks ((rb, f0) :: (l1 ++ x :: l2)) := by simp [blks]
theorem CacheIn.turn {l1 l2 : List (Nat × Frm)} {x : Nat × Frm} {w' : World} {f' : Frm} {v' : Value} (h : CacheIn w col c b s db rb mb (l1 ++ x :: l2)) (hc : 1 < c) (k : Chg (fun i => i = x.1) w w')
    (hx : w'.heap[x.1]? = some (.cells (nodeC (lst rb l1) (hd l2 rb) f' v') 78 (0, 0))) (hby : BytesAt w' (fun k => col k = 1) v' f'.bytes) (hs : f'.sector = x.2.sector) :
    CacheIn w' col c b { s with frames := (l1 ++ (x.1, f') :: l2).map Prod.snd } db rb mb (l1 ++ (x.1, f') :: l2) := by
  have hcx := h.cr _ h.mem
  have hk : ∀ i, i < w.heap.size → col i ≠ c + 3 → w'.heap[i]? = w.heap[i]? := fun i hi e => k.block i hi (fun e' => e (by rw [e']; exact hcx))
  have h1 : ∀ i, i < w.heap.size → col i = 1 → w'.heap[i]? = w.heap[i]? := fun i hi e => hk i hi (by omega)
  have hnd := h.ring.nodup
  have hsp := h.ring.seg
  have e0 : (rb, f0) :: (l1 ++ x :: l2) = ((rb, f0) :: l1) ++ x :: l2 := rfl
  have e1 : (rb, f0) :: (l1 ++ (x.1, f') :: l2) = ((rb, f0) :: l1) ++ (x.1, f') :: l2 := rfl
  rw [e0] at hnd hsp
  simp only [blks, List.map_append, List.map_cons] at hnd
  rw [List.nodup_append] at hnd
  obtain ⟨n1, n2, n3⟩ := hnd
  obtain ⟨sa, sx, sb⟩ := Seg.append.1 hsp
  refine h.ringed hc k (fun i e _ => ?_) ⟨?_, by rw [blks_turn]; exact h.ring.nodup, by rw [blks_turn]; exact h.ring.tint⟩ (by rw [blks_turn]; exact h.cr) (h.map.turn hs) rfl rfl rfl
  · subst e
    exact ⟨hcx, fun e => h.nb (e ▸ h.mem), fun e => h.nm (e ▸ h.mem)⟩
  · rw [lst_turn, e1]
    refine Seg.append.2 ⟨sa.keep h1 (Ext.refl _ _) k.size (fun y hy => ?_), ⟨v', hx, hby⟩, sb.keep h1 (Ext.refl _ _) k.size (fun y hy => ?_)⟩
    · refine k.block _ ?_ (fun e => ?_)
      · exact sa.lt y.1 (List.mem_map_of_mem hy)
      · exact n3 y.1 (by simpa using List.mem_map_of_mem (f := Prod.fst) hy) x.1 (by simp) e
    · refine k.block _ ?_ (fun e => ?_)
      · exact sb.lt y.1 (List.mem_map_of_mem hy)
      · have := List.mem_map_of_mem (f := Prod.fst) hy
        rw [e] at this
        exact (List.nodup_cons.1 n2).1 this
end
end Go.Proofs.Ytjjgihaikcnjgaa
