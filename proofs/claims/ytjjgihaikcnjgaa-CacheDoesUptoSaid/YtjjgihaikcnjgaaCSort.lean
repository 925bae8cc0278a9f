/-
  slices.SortFunc at the frames that are due.
-/
import Derived.Test.YtjjgihaikcnjgaaCFold
import Derived.Test.YtjjgihaikcnjgaaShelf
import Derived.Sort.OwnSorted
namespace Go.Proofs.Ytjjgihaikcnjgaa
open Go.RowKit Go.Maps Go.Sort
set_option linter.unusedSimpArgs false
set_option linter.unusedVariables false
set_option maxRecDepth 100000

theorem cmpF_before (f g : Frm) : decide (cmpF f g < 0) = Frm.before f g := by
  unfold cmpF or2 cmp3 Frm.before
  by_cases h1 : f.order < g.order
  · simp [h1]
  · by_cases h2 : g.order < f.order
    · have h3 : ¬ f.order = g.order := by omega
      simp [h1, h2, h3]
    · have h3 : f.order = g.order := by omega
      simp [h3]
      by_cases h4 : f.sector < g.sector
      · simp [h4]
      · by_cases h5 : g.sector < f.sector <;> simp [h4, h5]
/-- one of the frames -/
abbrev Of (ns : List (Nat × Frm)) := { x : Nat × Frm // x ∈ ns }
def cfOf {ns : List (Nat × Frm)} (x y : Of ns) : Int := cmpF x.1.2 y.1.2
def encOf {ns : List (Nat × Frm)} (x : Of ns) : Value := ptr x.1.1
theorem lt_cf {ns : List (Nat × Frm)} (x y : Of ns) : ltOf cfOf x y = Frm.before x.1.2 y.1.2 := cmpF_before _ _
theorem swo_cf {ns : List (Nat × Frm)} : SWO (ltOf (cfOf (ns := ns))) where
  irrefl x := by rw [lt_cf]; simp [Frm.before]
  trans x y z h1 h2 := by
    rw [lt_cf] at *; simp only [Frm.before, Bool.or_eq_true, decide_eq_true_eq, Bool.and_eq_true, beq_iff_eq] at *; omega
  ntrans x y z h1 h2 := by
    rw [lt_cf] at *
    rw [Bool.eq_false_iff] at *
    simp only [Frm.before, ne_eq, Bool.or_eq_true, decide_eq_true_eq, Bool.and_eq_true, beq_iff_eq] at *; omega
theorem tot_cf {ns : List (Nat × Frm)} (ha : Apart ns) (x y : Of ns) (h1 : ltOf cfOf x y = false) (h2 : ltOf cfOf y x = false) : x = y := by
  rw [lt_cf] at h1 h2
  rw [Bool.eq_false_iff] at h1 h2
  simp only [Frm.before, ne_eq, Bool.or_eq_true, decide_eq_true_eq, Bool.and_eq_true, beq_iff_eq] at h1 h2
  exact Subtype.ext (ha.uniq x.1 x.2 y.1 y.2 (by omega))
theorem sub_heap {w : World} {ns : List (Nat × Frm)} [Inhabited (Of ns)] {blk off m : Nat} {dk : Array (Of ns)} {os : Array Obj} {k : Nat} (hk : k < w.heap.size) (hn : k ≠ blk) : (sortWorld encOf w blk off m dk os).heap[k]? = w.heap[k]? := by
  unfold sortWorld
  rw [heap_grow_old _ _ (by simpa using hk)]
  have : blk ≠ k := fun e => hn e.symm
  simp [putRow, mapBlock, Sort.ahead, Array.getElem?_modify, this]
theorem dueN_sub {ns : List (Nat × Frm)} {L : List (Of ns)} {o : Int} (h : L.map Subtype.val = ns.filter (fun x => Frm.due o x.2)) : (L.mergeSort fun x y => !(ltOf cfOf) y x).map Subtype.val = dueN ns o := by
  rw [List.map_mergeSort (s := fun x y : Nat × Frm => !Frm.before y.2 x.2) (fun a _ b _ => by rw [lt_cf]), h]; rfl
theorem sort_any {w : World} {col : Nat → Nat} {c b db rb mb : Nat} {s : CS} {ns : List (Nat × Frm)} (h : CacheIn w col c b s db rb mb ns) (ha : Apart ns) (o : Int) (B n : Nat) (v : Value) (hB : ∀ i ∈ blks ((rb, f0) :: ns), i < B)
    (hv : SlAt w (fun k => B ≤ k) 53 1 v n ((ns.filter (fun x => Frm.due o x.2)).map (fun x => ptr x.1))) (hn : n ≤ 4096) :
    Calls Try.prog 42 #[v, .func (.func 43) #[] #[]] w fun e w' => e = .returned (.tuple #[]) ∧ RdAt w' (fun k => B ≤ k) 1 v n ((dueN ns o).map (fun x => ptr x.1)) ∧ Chg (fun k => B ≤ k) w w' := by
  have hL : ∃ L : List (Of ns), L.map Subtype.val = ns.filter (fun x => Frm.due o x.2) := by
    refine ⟨(ns.filter (fun x => Frm.due o x.2)).attach.map (fun x => ⟨x.1, (List.mem_filter.1 x.2).1⟩), ?_⟩
    rw [List.map_map]
    exact List.attach_map_subtype_val _
  obtain ⟨L, hL⟩ := hL
  have hlen : (ns.filter (fun x => Frm.due o x.2)).length = n := by have := hv.1; simpa using this
  have hLn : L.length = n := by rw [← hlen, ← hL]; simp
  have hcells : (ns.filter (fun x => Frm.due o x.2)).map (fun x => ptr x.1) = L.map encOf := by rw [← hL, List.map_map]; rfl
  have hout : ((dueN ns o).map (fun x => ptr x.1)) = (L.mergeSort fun x y => !(ltOf cfOf) y x).map encOf := by rw [← dueN_sub hL, List.map_map]; rfl
  rcases hv.2 with ⟨a, rfl, h0⟩ | ⟨g, off, cap, cur, rfl, hg, hh, h3, h4, h5, h6⟩
  · subst h0
    have hLe : L = [] := List.eq_nil_of_length_eq_zero hLn
    subst hLe
    refine (AnyF.slices_SortFunc_none { Try.sortF with } a 0 _ w).mono ?_
    rintro e w' ⟨rfl, rfl⟩
    refine ⟨rfl, ?_, Chg.refl _ _⟩
    rw [hout]
    exact ⟨by simp, a, 0, rfl, by omega, by unfold maxLen; omega, fun h => by omega⟩
  · rcases Nat.eq_zero_or_pos n with h0 | hpos
    · subst h0
      have hLe : L = [] := List.eq_nil_of_length_eq_zero hLn
      subst hLe
      refine (AnyF.slices_SortFunc_none { Try.sortF with } _ cap _ w).mono ?_
      rintro e w' ⟨rfl, rfl⟩
      refine ⟨rfl, ?_, Chg.refl _ _⟩
      rw [hout]
      exact ⟨by simp, _, cap, rfl, by omega, h4, fun h => by omega⟩
    · have hne : L ≠ [] := fun e => by subst e; simp at hLn; omega
      obtain ⟨x0, L', rfl⟩ := List.exists_cons_of_ne_nil hne
      haveI : Inhabited (Of ns) := ⟨x0⟩
      generalize hLL : x0 :: L' = L at *
      have hgl : g < w.heap.size := lt_of_block hh
      have hH : Holds encOf w g off L.toArray := by
        intro j hj
        have hj' : j < L.length := by simpa using hj
        refine ⟨?_, by simp [World.frozen?, hh]⟩
        rw [cell_of_block hh]
        have h7 : ((cur.toList.drop off).take (n * 1))[j]? = (L.map encOf)[j]? := by rw [h6, hcells]
        rw [List.getElem?_take, if_pos (by omega), List.getElem?_drop] at h7
        rw [← Array.getElem?_toList, h7]
        simp [hj']
      have hcmp : CmpLays1 Try.prog 43 #[] (encOf (ns := ns)) (cfOf (ns := ns)) g off L.toArray.size w := by
        intro m os dk hdk x y
        have node : ∀ z : Of ns, ∃ p q v, (sortWorld encOf w g off m dk os).heap[z.1.1]? = some (.cells (nodeC p q z.1.2 v) 78 (0, 0)) := fun z => by
          obtain ⟨l1, l2, hz⟩ := List.append_of_mem z.2
          have hr := h.ring
          rw [hz] at hr
          obtain ⟨p, v, h8, _⟩ := ring_cells hr
          have hzm : z.1.1 ∈ blks ((rb, f0) :: ns) := List.mem_map_of_mem (f := Prod.fst) (List.mem_cons_of_mem _ z.2)
          exact ⟨p, _, v, (sub_heap (ns := ns) (lt_of_block h8) (fun e => by have := hB _ hzm; omega)).trans h8⟩
        obtain ⟨p, q, v, hx⟩ := node x
        obtain ⟨p', q', v', hy⟩ := node y
        refine (closure_any _ x.1.1 y.1.1 p q p' q' x.1.2 y.1.2 v v' hx hy).mono ?_
        rintro e w' ⟨rfl, o', rfl⟩
        exact ⟨rfl, 1, #[o'], rfl⟩
      have hs := Any.slices_SortFunc_total Try.sortF (encOf (ns := ns)) (fun _ => rfl) (cfOf (ns := ns)) swo_cf 43 #[] g off cap L.toArray w (enters_of Try.func43 (by kernel_rfl) rfl) hcmp hH hgl (by simp; omega) (tot_cf ha)
      have hsz : L.toArray.size = n := by simp [hLn]
      rw [hsz] at hs
      refine hs.mono ?_
      rintro e w' ⟨rfl, m, os, rfl⟩
      have hso : (L.mergeSort fun x y => !(ltOf cfOf) y x).toArray.size = L.toArray.size := by simp
      have h1 : Holds encOf (putRow encOf (Sort.ahead w m) g off (L.mergeSort fun x y => !(ltOf cfOf) y x).toArray) g off _ := holds_putRow _ _ _ _ L.toArray _ (holds_ahead _ _ _ _ _ _ hH) hso
      have h2 := holds_grow _ _ os g off _ (by simpa using hgl) h1
      refine ⟨rfl, ?_, ?_⟩
      · rw [hout]
        refine ⟨by simp [hLn], _, cap, rfl, h3, h4, fun _ => ⟨g, off, rfl, hg, by unfold sortWorld; simp; omega, fun j u hj => ?_⟩⟩
        have hjl : j < (L.mergeSort fun x y => !(ltOf cfOf) y x).length := by
          rcases Nat.lt_or_ge j (L.mergeSort fun x y => !(ltOf cfOf) y x).length with h | h
          · exact h
          · rw [List.getElem?_eq_none (by simpa using h)] at hj; cases hj
        have := (h2 j (by simpa using hjl)).1
        unfold sortWorld
        rw [this, ← hj]
        simp only [List.getElem?_map, List.getElem?_eq_getElem hjl]
        simp [List.getElem?_eq_getElem hjl]
      · refine ⟨rfl, rfl, rfl, by unfold sortWorld; simp, fun k hk hne => sub_heap (ns := ns) hk (fun e => hne (by omega))⟩
end Go.Proofs.Ytjjgihaikcnjgaa
