/-
  WriteUpTo as plain data: one frame after the other is written.
-/
import Derived.Test.YtjjgihaikcnjgaaCCmp
import Derived.Test.YtjjgihaikcnjgaaCTurn
namespace Go.Proofs.Ytjjgihaikcnjgaa
open Go.RowKit Go.Maps
set_option linter.unusedSimpArgs false
set_option linter.unusedVariables false
set_option maxRecDepth 100000

/-- the frames that are due, with their blocks -/
def dueN (ns : List (Nat × Frm)) (o : Int) : List (Nat × Frm) := (ns.filter (fun x => Frm.due o x.2)).mergeSort (fun x y => !Frm.before y.2 x.2)
theorem dueN_map (ns : List (Nat × Frm)) (o : Int) : (dueN ns o).map Prod.snd = ((ns.map Prod.snd).filter (Frm.due o)).mergeSort (fun x y => !Frm.before y x) := by
  unfold dueN
  rw [List.map_mergeSort (s := fun x y => !Frm.before y x) (fun _ _ _ _ => rfl)]
  congr 1
  rw [List.filter_map]; rfl
theorem dueN_mem {ns : List (Nat × Frm)} {o : Int} {x : Nat × Frm} : x ∈ dueN ns o ↔ x ∈ ns ∧ Frm.due o x.2 = true := by
  unfold dueN; rw [List.mem_mergeSort, List.mem_filter]
def step1N (ns : List (Nat × Frm)) (y : Nat × Frm) : List (Nat × Frm) := ns.map (fun x => if Frm.is y.2.sector x.2 then (x.1, x.2.clean) else x)
theorem clean_sector (f : Frm) : f.clean.sector = f.sector := rfl
theorem step1N_sector (ns : List (Nat × Frm)) (y : Nat × Frm) : (step1N ns y).map (fun x => x.2.sector) = ns.map (fun x => x.2.sector) := by
  unfold step1N
  rw [List.map_map]
  refine List.map_congr_left (fun x _ => ?_)
  simp only [Function.comp]; split <;> rfl
theorem step1N_apart {ns : List (Nat × Frm)} (h : Apart ns) (y : Nat × Frm) : Apart (step1N ns y) := by unfold Apart; rw [step1N_sector]; exact h
theorem step1N_frames (ns : List (Nat × Frm)) (y : Nat × Frm) : (step1N ns y).map Prod.snd = (ns.map Prod.snd).map (fun g => if Frm.is y.2.sector g then g.clean else g) := by
  unfold step1N
  rw [List.map_map, List.map_map]
  refine List.map_congr_left (fun x _ => ?_)
  simp only [Function.comp]; split <;> rfl
theorem step1N_keep {ns : List (Nat × Frm)} {x y : Nat × Frm} (hx : x ∈ ns) (h : x.2.sector ≠ y.2.sector) : x ∈ step1N ns y := by
  unfold step1N
  exact List.mem_map.2 ⟨x, hx, by rw [if_neg]; simpa [Frm.is] using h⟩
theorem step1N_split {l1 l2 : List (Nat × Frm)} {x : Nat × Frm} (h : Apart (l1 ++ x :: l2)) : step1N (l1 ++ x :: l2) x = l1 ++ (x.1, x.2.clean) :: l2 := by
  have hm := apart_mid h
  unfold step1N
  rw [List.map_append, List.map_cons, if_pos (Frm.is_self _)]
  have e : ∀ l : List (Nat × Frm), (∀ y ∈ l, Frm.is x.2.sector y.2 = false) → l.map (fun z => if Frm.is x.2.sector z.2 then (z.1, z.2.clean) else z) = l := fun l hl => by
    conv => rhs; rw [← List.map_id l]
    exact List.map_congr_left (fun y hy => by rw [hl y hy]; rfl)
  rw [e l1 (fun y hy => hm y (List.mem_append_left _ hy)), e l2 (fun y hy => hm y (List.mem_append_right _ hy))]
def foldN (ns : List (Nat × Frm)) (M : List (Nat × Frm)) : List (Nat × Frm) := M.foldl step1N ns
def foldS (s : CS) (M : List (Nat × Frm)) : CS := (M.map Prod.snd).foldl CS.write1 s
theorem foldN_apart : ∀ {M ns : List (Nat × Frm)}, Apart ns → Apart (foldN ns M)
  | [], _, h => h
  | y :: M, ns, h => foldN_apart (M := M) (step1N_apart h y)
theorem foldN_keep : ∀ {M ns : List (Nat × Frm)} {x : Nat × Frm}, x ∈ ns → (∀ y ∈ M, x.2.sector ≠ y.2.sector) → x ∈ foldN ns M
  | [], _, _, h, _ => h
  | y :: M, ns, x, h, hs => foldN_keep (M := M) (step1N_keep h (hs y (by simp))) (fun z hz => hs z (by simp [hz]))
theorem foldN_snoc (ns M : List (Nat × Frm)) (y : Nat × Frm) : foldN ns (M ++ [y]) = step1N (foldN ns M) y := by simp [foldN]
theorem foldS_snoc (s : CS) (M : List (Nat × Frm)) (y : Nat × Frm) : foldS s (M ++ [y]) = (foldS s M).write1 y.2 := by simp [foldS]
theorem foldN_sector : ∀ (M ns : List (Nat × Frm)), (foldN ns M).map (fun x => x.2.sector) = ns.map (fun x => x.2.sector)
  | [], ns => rfl
  | y :: M, ns => by show (foldN (step1N ns y) M).map _ = _; rw [foldN_sector M, step1N_sector]
theorem write1_Ok {s : CS} (ok : s.Ok) {f : Frm} (h0 : 0 ≤ f.sector ∧ f.sector < s.d.count) (hl : (f.bytes.length : Int) = s.d.size) : (s.write1 f).Ok := by
  have hm : ∀ g ∈ (s.write1 f).frames, ∃ g' ∈ s.frames, g.sector = g'.sector ∧ g.bytes = g'.bytes ∧ (g.order = g'.order ∨ g.order = 0) := fun g hg => by
    simp only [CS.write1, List.mem_map] at hg
    obtain ⟨g', hg', rfl⟩ := hg
    refine ⟨g', hg', ?_⟩
    split
    · exact ⟨rfl, rfl, Or.inr rfl⟩
    · exact ⟨rfl, rfl, Or.inl rfl⟩
  refine ⟨wrote_Ok ok.d _ _, by simp only [CS.write1, wrote_stops]; exact ok.on, ok.room0, ok.room1, by simpa [CS.write1] using ok.len, ?_, fun g hg => ?_, fun g hg => ?_, fun g hg => ?_⟩
  · have e : (s.write1 f).frames.map Frm.sector = s.frames.map Frm.sector := by
      simp only [CS.write1, List.map_map]
      refine List.map_congr_left (fun x _ => ?_)
      simp only [Function.comp]; split <;> rfl
    rw [e]; exact ok.nodup
  · obtain ⟨g', hg', e1, e2, e3⟩ := hm g hg
    simp only [CS.write1, wrote_count]; rw [e1]; exact ok.at0 g' hg'
  · obtain ⟨g', hg', e1, e2, e3⟩ := hm g hg
    simp only [CS.write1, wrote_size]; rw [e2]; exact ok.size g' hg'
  · obtain ⟨g', hg', e1, e2, e3⟩ := hm g hg
    have := ok.order g' hg'
    omega
theorem write1_d (s : CS) (f : Frm) : (s.write1 f).d = s.d.wrote f.sector f.bytes := rfl
theorem foldS_Ok : ∀ (M : List (Nat × Frm)) (s : CS), s.Ok → (∀ y ∈ M, (0 ≤ y.2.sector ∧ y.2.sector < s.d.count) ∧ (y.2.bytes.length : Int) = s.d.size) → (foldS s M).Ok ∧ (foldS s M).d.count = s.d.count ∧ (foldS s M).d.size = s.d.size ∧ (foldS s M).d.pending.length ≤ s.d.pending.length + M.length
  | [], s, ok, _ => ⟨ok, rfl, rfl, by simp [foldS]⟩
  | y :: M, s, ok, h => by
    obtain ⟨h0, hl⟩ := h y (by simp)
    have h1 := foldS_Ok M (s.write1 y.2) (write1_Ok ok h0 hl) (fun z hz => by rw [write1_d, wrote_count, wrote_size]; exact h z (by simp [hz]))
    obtain ⟨a, b, c, d⟩ := h1
    refine ⟨a, by rw [← wrote_count s.d y.2.sector y.2.bytes]; exact b, by rw [← wrote_size s.d y.2.sector y.2.bytes]; exact c, ?_⟩
    have := wrote_pend s.d y.2.sector y.2.bytes
    simp only [List.length_cons]
    have d' : (foldS s (y :: M)).d.pending.length ≤ (s.write1 y.2).d.pending.length + M.length := d
    rw [write1_d] at d'
    omega
theorem foldN_frames : ∀ (M ns : List (Nat × Frm)) (s : CS), ns.map Prod.snd = s.frames → (foldN ns M).map Prod.snd = (foldS s M).frames
  | [], ns, s, h => h
  | y :: M, ns, s, h => foldN_frames M (step1N ns y) (s.write1 y.2) (by rw [step1N_frames, h]; rfl)
theorem apart_of_ok {s : CS} (ok : s.Ok) {ns : List (Nat × Frm)} (h : ns.map Prod.snd = s.frames) : Apart ns := by
  have := ok.nodup
  rw [← h, List.map_map] at this
  exact this
/-- no sector stands twice among those that are written -/
theorem dueN_apart {ns : List (Nat × Frm)} (h : Apart ns) (o : Int) : Apart (dueN ns o) := by
  unfold Apart dueN
  have h1 : ((ns.filter (fun x => Frm.due o x.2)).map (fun x => x.2.sector)).Nodup := List.Sublist.nodup (List.Sublist.map _ List.filter_sublist) h
  exact ((List.mergeSort_perm _ _).map _).nodup_iff.2 h1
theorem dueN_next {ns : List (Nat × Frm)} (h : Apart ns) (o : Int) {j : Nat} (hj : j < (dueN ns o).length) : (dueN ns o)[j] ∈ foldN ns ((dueN ns o).take j) := by
  have hm := (dueN_mem.1 (List.getElem_mem hj)).1
  refine foldN_keep hm (fun y hy e => ?_)
  have hd := dueN_apart h o
  obtain ⟨i, hi, rfl⟩ := List.getElem_of_mem hy
  rw [List.length_take] at hi
  have h1 : i < j := by omega
  rw [List.getElem_take] at e
  unfold Apart at hd
  rw [List.nodup_iff_pairwise_ne, List.pairwise_map] at hd
  exact (List.pairwise_iff_getElem.1 hd) i j (by omega) hj h1 e.symm
theorem upTo_foldS {s : CS} {ns : List (Nat × Frm)} (h : ns.map Prod.snd = s.frames) (o : Int) : foldS s (dueN ns o) = s.upTo o := by
  unfold foldS CS.upTo CS.due
  rw [dueN_map, h]
end Go.Proofs.Ytjjgihaikcnjgaa
