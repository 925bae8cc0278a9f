/-
  The document's disk: Fork.
-/
import Derived.Test.YtlkebppmdbgdmaaRefLaw
import Derived.Test.YtlkebppmdbgdmaaWalks6
import Derived.Test.YtlkebppmdbgdmaaLast
namespace Go.Proofs.Ytlkebppmdbgdmaa
open Go.RowKit
set_option linter.unusedSimpArgs false
set_option linter.unusedVariables false

set_option maxHeartbeats 2000000 in
theorem reffork_any (w : World) (col : Nat → Nat) (c b : Nat) (t : DS) (h : DiskAt w 49 col c b t) (hp : t.pending.length ≤ 1073741824) (hl : t.platter.length ≤ 1073741824) (hbl : ∀ p ∈ t.pending, p.2.length ≤ 4096) (c' : Nat) (hc' : 1 < c') (hcl : Clear w.heap.size col c') :
    Calls Try.prog 32 #[.pointer (some ⟨b, 0, none⟩)] w fun e w' => ForkDisk w 49 col c' t e w' ∧ Below w.heap.size w w' := by
  obtain ⟨pa, pcap, qa, qn, qcap, qs, h⟩ := h
  obtain ⟨i0, hi, hz0, hz1, hz2⟩ := info_parts info57
  obtain ⟨j0, hj, jz0, jz1, jz2⟩ := info_parts info5
  have c0 := h.size; have c1 := h.count; have c2 := h.platter; have c3 := h.pending; have c4 := h.reads; have c5 := h.writes; have c6 := h.flushes; have c7 := h.stops; have c8 := h.left
  have hqn := Lib.hid h.len
  have hq1 : qn ≤ 1073741824 := by have := hqn.out; omega
  have hb := h.lt
  go_enter Try.func32, Try.ntmps32
  go_wp2_with (at_builtin; go_must (refine wpList_append_sl rfl _ _ 30 rfl 5 j0 (.int .u8 0) 1 1 Try.underlying30 hj jz0 jz1 jz2 rfl (fun _ => False) _ 0 [] rfl (SlAt.nil _ _ _ _ _) (fun k => col k = c + 1) _ t.platter.length (bcells t.platter) rfl ?_ (bcells_one _) ?_ ?_ ?_); exact h.plat.rd.below (((Below.refl _ _).alloc (Nat.le_refl _) _).alloc (by simp) _); (unfold maxLen; omega); omega; rintro v9 w9 hs9 hc9; (have bl9 := hc9.keeps (block_old _ (block_new w _)) (fun e => e)); (have n2 := (cell_of_block bl9 2).trans rfl); (have n3 := (cell_of_block bl9 3).trans rfl); (have f2 := free_of_block bl9 2); (have f3 := free_of_block bl9 3); obtain ⟨a9, cap9, rfl⟩ := hs9.shape)
  have k9 : Below w.heap.size w w9 := ((((Below.refl w.heap.size w).alloc (Nat.le_refl _) _).alloc (by simp) _)).trans (hc9.below (by simp; omega) (fun _ _ e => e))
  have hz9 := hc9.size
  have hb9 : b < w9.heap.size := by simp at hz9; omega
  have k94 : ∀ k, k ≠ w.heap.size → ((w9.setCell ⟨w.heap.size, 2, none⟩ (.slice a9 t.platter.length cap9)).setCell ⟨w.heap.size, 3, none⟩ (.slice none 0 0)).heap[k]? = w9.heap[k]? := fun k hk => by
    rw [Below.heap_setCell _ _ _ _ hk, Below.heap_setCell _ _ _ _ hk]
  have bl4 := block_set (block_set bl9 2 (.slice a9 t.platter.length cap9)) 3 (.slice none 0 0)
  have k4 : Below w.heap.size w ((w9.setCell ⟨w.heap.size, 2, none⟩ (.slice a9 t.platter.length cap9)).setCell ⟨w.heap.size, 3, none⟩ (.slice none 0 0)) := (k9.setCell (p := ⟨w.heap.size, 2, none⟩) (Nat.le_refl _) _).setCell (p := ⟨w.heap.size, 3, none⟩) (Nat.le_refl _) _
  have s4 : ((w9.setCell ⟨w.heap.size, 2, none⟩ (.slice a9 t.platter.length cap9)).setCell ⟨w.heap.size, 3, none⟩ (.slice none 0 0)).heap.size = w9.heap.size := by simp
  generalize (w9.setCell ⟨w.heap.size, 2, none⟩ (.slice a9 t.platter.length cap9)).setCell ⟨w.heap.size, 3, none⟩ (.slice none 0 0) = W4 at *
  have hext : Ext w.heap.size col (colF col w.heap.size w9.heap.size w9.heap.size c') := fun k hk => by simp [colF, hk]
  have hnm4 : Norm W4 (colF col w.heap.size w9.heap.size w9.heap.size c') := fun k hk => by simp only [colF]; rw [if_neg (by simp at hz9; omega), if_pos (by omega)]
  have hd4 : DiskAt W4 49 (colF col w.heap.size w9.heap.size w9.heap.size c') c' w.heap.size { t with pending := t.pending.take 0 } := by
    refine ⟨a9, cap9, none, 0, 0, [], ?_, ?_, ?_, SlAt.nil _ _ _ _ _, by simp, by simp [PendC]⟩
    · rw [bl4]; rfl
    · simp only [colF]
      rw [if_neg (by omega), if_neg (by simp at hz9; omega), if_pos trivial]
    · rw [Nat.zero_add, List.nil_append] at hs9
      refine hs9.keep (fun k hk e => k94 k ?_) (fun k hk e => ?_)
      · rcases e with e | e
        · exact e.elim
        · simp at e; omega
      · rcases e with e | e
        · exact e.elim
        · simp at e
          simp only [colF]
          rw [if_neg (by omega), if_neg (by omega), if_neg (by omega), if_pos hk]
  clear hs9 hc9 bl9 n2 n3 f2 f3 k9 hz9 hb9 k94 bl4
  have S4 := Lib.hid s4
  clear s4
  generalize colF col w.heap.size w9.heap.size w9.heap.size c' = col4 at *
  have hh := h
  clear c0 c1 c2 c3 c4 c5 c6 c7 c8
  go_loopw [4] (fun i wr => ∃ (k : Nat) (colr : Nat → Nat), k ≤ qn ∧ i = .int .i64 k ∧ Below w.heap.size w wr ∧ Ext w.heap.size col colr ∧ Norm wr colr ∧ DiskAt wr 49 colr c' w.heap.size { t with pending := t.pending.take k }) (fun i _ => qn - (intOf i).toNat)
  case atStart => exact ⟨0, col4, by omega, rfl, k4, hext, hnm4, hd4⟩
  case round =>
    obtain ⟨k, colr, hk, rfl, kr, her, hnr, hdr⟩ := hrel
    have hsr := kr.size
    have h0 := hh.below kr
    have p3 := h0.pending
    by_cases hlt : k < qn
    · obtain ⟨g, off, rfl, _, hgl, hcs⟩ := hh.list.rd.get (by omega)
      have hkp : k < t.pending.length := by have := hqn.out; omega
      obtain ⟨a', n', cap', e1, e2, hby⟩ := PendC.get h0.pend k hkp
      have x1 := (kr.cell (p := ⟨g, off + k * 2, none⟩) hgl).trans (hcs _ _ e1)
      have x2 := (kr.cell (p := ⟨g, off + k * 2 + 1, none⟩) hgl).trans (hcs _ _ e2)
      clear hcs e1 e2
      obtain ⟨pa5, pcap5, qa5, qn5, qcap5, qs5, h5⟩ := hdr
      have hl5 : qn5 = k := by have := h5.len; simp at this; omega
      subst hl5
      have hlen4 := hbl _ (List.getElem_mem hkp)
      have Htk : Hid (t.pending.take qn5 ++ [t.pending[qn5]] = t.pending.take (qn5 + 1)) := by
        show _ = _
        rw [List.take_succ_eq_append_getElem hkp]
      obtain ⟨a5, cap5, hv5⟩ := hby.shape
      injection hv5 with hv5 hn5 hcp5
      subst hn5
      clear hv5 hcp5 a5 cap5
      generalize ht5 : t.pending[qn5] = T5 at *
      clear ht5
      obtain ⟨N5, l5⟩ := T5
      simp only at x1 x2 hby hlen4
      have i0' : (0 : Int) ≤ (qn5 : Int) := by omega
      have i1' : (qn5 : Int) < (qn : Int) := by omega
      have q3 := h5.pending
      have f3 := h5.free 3
      have hw5 := h5.lt
      have b0r : b < wr.heap.size := by omega
      have hno : ∀ j, j < w.heap.size → ¬ (j < wr.heap.size ∧ colr j = c' + 2) := fun j hj e => hcl j hj (by unfold inC; rw [← her j hj]; omega)
      have hnb := hno b hb
      have hng := hno g hgl
      have hcol5 := h5.color
      have hnw : ¬ (w.heap.size < wr.heap.size ∧ colr w.heap.size = c' + 2) := fun e => by omega
      clear hno
      have hgr : g < wr.heap.size := by omega
      have HS : Hid (∀ w', Below wr.heap.size wr w' → w'.cell? ⟨b, 3, none⟩ = some (.slice (some ⟨g, off, none⟩) qn qcap) ∧ w'.cell? ⟨w.heap.size, 3, none⟩ = some (.slice qa5 qn5 qcap5) ∧ w'.cell? ⟨g, off + qn5 * 2, none⟩ = some (.int .i64 N5) ∧ w'.cell? ⟨g, off + qn5 * 2 + 1, none⟩ = some (.slice a' l5.length cap')) := fun w' hb' =>
        ⟨(hb'.cell (p := ⟨b, 3, none⟩) b0r).trans p3, (hb'.cell (p := ⟨w.heap.size, 3, none⟩) hw5).trans q3, (hb'.cell (p := ⟨g, off + qn5 * 2, none⟩) hgr).trans x1, (hb'.cell (p := ⟨g, off + qn5 * 2 + 1, none⟩) hgr).trans x2⟩
      obtain ⟨y1, y2, y3, y4⟩ := HS.out wr.drew (Below.refl _ _).drew
      go_wp2_with fail
      refine M_region (S := fun w' => w'.cell? ⟨b, 3, none⟩ = some (.slice (some ⟨g, off, none⟩) qn qcap) ∧ w'.cell? ⟨w.heap.size, 3, none⟩ = some (.slice qa5 qn5 qcap5) ∧ w'.cell? ⟨g, off + qn5 * 2, none⟩ = some (.int .i64 N5) ∧ w'.cell? ⟨g, off + qn5 * 2 + 1, none⟩ = some (.slice a' l5.length cap')) (z := 24) (by kernel_rfl) ?_
      have hS0 : (fun w' : World => w'.cell? ⟨b, 3, none⟩ = some (.slice (some ⟨g, off, none⟩) qn qcap) ∧ w'.cell? ⟨w.heap.size, 3, none⟩ = some (.slice qa5 qn5 qcap5) ∧ w'.cell? ⟨g, off + qn5 * 2, none⟩ = some (.int .i64 N5) ∧ w'.cell? ⟨g, off + qn5 * 2 + 1, none⟩ = some (.slice a' l5.length cap')) wr.drew := ⟨y1, y2, y3, y4⟩
      refine M_take (i := 0) (by decide) (by kernel_rfl) (by kernel_rfl) (by kernel_rfl) (by kernel_rfl) (fun _ _ _ h => h) hS0 (by rfl) (v := ?_) ?_ ?_
      rotate_left
      · intro w' hSw
        obtain ⟨s1, s2, s3, s4⟩ := hSw

        go_simp
        try with_reducible rfl
      try simp only [Act.put, List.getElem_toArray, List.getElem_cons_succ, List.getElem_cons_zero, List.setIfInBounds_toArray, List.set_cons_zero, List.set_cons_succ]
      refine M_take (i := 1) (by decide) (by kernel_rfl) (by kernel_rfl) (by kernel_rfl) (by kernel_rfl) (fun _ _ _ h => h) hS0 (by rfl) (v := ?_) ?_ ?_
      rotate_left
      · intro w' hSw
        obtain ⟨s1, s2, s3, s4⟩ := hSw

        go_simp
        try with_reducible rfl
      try simp only [Act.put, List.getElem_toArray, List.getElem_cons_succ, List.getElem_cons_zero, List.setIfInBounds_toArray, List.set_cons_zero, List.set_cons_succ]
      refine M_take (i := 2) (by decide) (by kernel_rfl) (by kernel_rfl) (by kernel_rfl) (by kernel_rfl) (fun _ _ _ h => h) hS0 (by rfl) (v := ?_) ?_ ?_
      rotate_left
      · intro w' hSw
        obtain ⟨s1, s2, s3, s4⟩ := hSw

        go_simp
        try with_reducible rfl
      try simp only [Act.put, List.getElem_toArray, List.getElem_cons_succ, List.getElem_cons_zero, List.setIfInBounds_toArray, List.set_cons_zero, List.set_cons_succ]
      refine M_take (i := 3) (by decide) (by kernel_rfl) (by kernel_rfl) (by kernel_rfl) (by kernel_rfl) (fun _ _ _ h => h) hS0 (by rfl) (v := ?_) ?_ ?_
      rotate_left
      · intro w' hSw
        obtain ⟨s1, s2, s3, s4⟩ := hSw

        go_simp
        try with_reducible rfl
      try simp only [Act.put, List.getElem_toArray, List.getElem_cons_succ, List.getElem_cons_zero, List.setIfInBounds_toArray, List.set_cons_zero, List.set_cons_succ]
      refine M_take (i := 4) (by decide) (by kernel_rfl) (by kernel_rfl) (by kernel_rfl) (by kernel_rfl) (fun _ _ _ h => h) hS0 (by rfl) (v := ?_) ?_ ?_
      rotate_left
      · intro w' hSw
        obtain ⟨s1, s2, s3, s4⟩ := hSw

        go_simp
        try with_reducible rfl
      try simp only [Act.put, List.getElem_toArray, List.getElem_cons_succ, List.getElem_cons_zero, List.setIfInBounds_toArray, List.set_cons_zero, List.set_cons_succ]
      refine M_take (i := 5) (by decide) (by kernel_rfl) (by kernel_rfl) (by kernel_rfl) (by kernel_rfl) (fun _ _ _ h => h) hS0 (by rfl) (v := ?_) ?_ ?_
      rotate_left
      · intro w' hSw
        obtain ⟨s1, s2, s3, s4⟩ := hSw

        go_simp
        try with_reducible rfl
      try simp only [Act.put, List.getElem_toArray, List.getElem_cons_succ, List.getElem_cons_zero, List.setIfInBounds_toArray, List.set_cons_zero, List.set_cons_succ]
      refine M_take (i := 6) (by decide) (by kernel_rfl) (by kernel_rfl) (by kernel_rfl) (by kernel_rfl) (fun _ _ _ h => h) hS0 (by rfl) (v := ?_) ?_ ?_
      rotate_left
      · intro w' hSw
        obtain ⟨s1, s2, s3, s4⟩ := hSw

        go_simp
        try with_reducible rfl
      try simp only [Act.put, List.getElem_toArray, List.getElem_cons_succ, List.getElem_cons_zero, List.setIfInBounds_toArray, List.set_cons_zero, List.set_cons_succ]
      refine M_take (i := 7) (by decide) (by kernel_rfl) (by kernel_rfl) (by kernel_rfl) (by kernel_rfl) (fun _ _ _ h => h) hS0 (by rfl) (v := ?_) ?_ ?_
      rotate_left
      · intro w' hSw
        obtain ⟨s1, s2, s3, s4⟩ := hSw

        go_simp
        try with_reducible rfl
      try simp only [Act.put, List.getElem_toArray, List.getElem_cons_succ, List.getElem_cons_zero, List.setIfInBounds_toArray, List.set_cons_zero, List.set_cons_succ]
      refine M_take (i := 8) (by decide) (by kernel_rfl) (by kernel_rfl) (by kernel_rfl) (by kernel_rfl) (fun _ _ _ h => h) hS0 (by rfl) (v := ?_) ?_ ?_
      rotate_left
      · intro w' hSw
        obtain ⟨s1, s2, s3, s4⟩ := hSw

        go_simp
        try with_reducible rfl
      try simp only [Act.put, List.getElem_toArray, List.getElem_cons_succ, List.getElem_cons_zero, List.setIfInBounds_toArray, List.set_cons_zero, List.set_cons_succ]
      refine M_take (i := 9) (by decide) (by kernel_rfl) (by kernel_rfl) (by kernel_rfl) (by kernel_rfl) (fun _ _ _ h => h) hS0 (by rfl) (v := ?_) ?_ ?_
      rotate_left
      · intro w' hSw
        obtain ⟨s1, s2, s3, s4⟩ := hSw

        go_simp
        try with_reducible rfl
      try simp only [Act.put, List.getElem_toArray, List.getElem_cons_succ, List.getElem_cons_zero, List.setIfInBounds_toArray, List.set_cons_zero, List.set_cons_succ]
      refine M_take (i := 11) (by decide) (by kernel_rfl) (by kernel_rfl) (by kernel_rfl) (by kernel_rfl) (fun _ _ _ h => h) hS0 (by rfl) (v := ?_) ?_ ?_
      rotate_left
      · intro w' hSw
        obtain ⟨s1, s2, s3, s4⟩ := hSw

        go_simp
        try with_reducible rfl
      try simp only [Act.put, List.getElem_toArray, List.getElem_cons_succ, List.getElem_cons_zero, List.setIfInBounds_toArray, List.set_cons_zero, List.set_cons_succ]
      refine M_take (i := 12) (by decide) (by kernel_rfl) (by kernel_rfl) (by kernel_rfl) (by kernel_rfl) (fun _ _ _ h => h) hS0 (by rfl) (v := ?_) ?_ ?_
      rotate_left
      · intro w' hSw
        obtain ⟨s1, s2, s3, s4⟩ := hSw

        go_simp
        try with_reducible rfl
      try simp only [Act.put, List.getElem_toArray, List.getElem_cons_succ, List.getElem_cons_zero, List.setIfInBounds_toArray, List.set_cons_zero, List.set_cons_succ]
      refine M_take (i := 13) (by decide) (by kernel_rfl) (by kernel_rfl) (by kernel_rfl) (by kernel_rfl) (fun _ _ _ h => h) hS0 (by rfl) (v := ?_) ?_ ?_
      rotate_left
      · intro w' hSw
        obtain ⟨s1, s2, s3, s4⟩ := hSw

        go_simp
        try with_reducible rfl
      try simp only [Act.put, List.getElem_toArray, List.getElem_cons_succ, List.getElem_cons_zero, List.setIfInBounds_toArray, List.set_cons_zero, List.set_cons_succ]
      refine M_take (i := 14) (by decide) (by kernel_rfl) (by kernel_rfl) (by kernel_rfl) (by kernel_rfl) (fun _ _ _ h => h) hS0 (by rfl) (v := ?_) ?_ ?_
      rotate_left
      · intro w' hSw
        obtain ⟨s1, s2, s3, s4⟩ := hSw

        go_simp
        try with_reducible rfl
      try simp only [Act.put, List.getElem_toArray, List.getElem_cons_succ, List.getElem_cons_zero, List.setIfInBounds_toArray, List.set_cons_zero, List.set_cons_succ]
      refine M_take (i := 15) (by decide) (by kernel_rfl) (by kernel_rfl) (by kernel_rfl) (by kernel_rfl) (fun _ _ _ h => h) hS0 (by rfl) (v := ?_) ?_ ?_
      rotate_left
      · intro w' hSw
        obtain ⟨s1, s2, s3, s4⟩ := hSw

        go_simp
        try with_reducible rfl
      try simp only [Act.put, List.getElem_toArray, List.getElem_cons_succ, List.getElem_cons_zero, List.setIfInBounds_toArray, List.set_cons_zero, List.set_cons_succ]
      refine M_take (i := 16) (by decide) (by kernel_rfl) (by kernel_rfl) (by kernel_rfl) (by kernel_rfl) (fun _ _ _ h => h) hS0 (by rfl) (v := ?_) ?_ ?_
      rotate_left
      · intro w' hSw
        obtain ⟨s1, s2, s3, s4⟩ := hSw

        go_simp
        try with_reducible rfl
      try simp only [Act.put, List.getElem_toArray, List.getElem_cons_succ, List.getElem_cons_zero, List.setIfInBounds_toArray, List.set_cons_zero, List.set_cons_succ]
      refine M_take (i := 17) (by decide) (by kernel_rfl) (by kernel_rfl) (by kernel_rfl) (by kernel_rfl) (fun _ _ _ h => h) hS0 (by rfl) (v := ?_) ?_ ?_
      rotate_left
      · intro w' hSw
        obtain ⟨s1, s2, s3, s4⟩ := hSw

        go_simp
        try with_reducible rfl
      try simp only [Act.put, List.getElem_toArray, List.getElem_cons_succ, List.getElem_cons_zero, List.setIfInBounds_toArray, List.set_cons_zero, List.set_cons_succ]
      refine M_take (i := 18) (by decide) (by kernel_rfl) (by kernel_rfl) (by kernel_rfl) (by kernel_rfl) (fun _ _ _ h => h) hS0 (by rfl) (v := ?_) ?_ ?_
      rotate_left
      · intro w' hSw
        obtain ⟨s1, s2, s3, s4⟩ := hSw

        go_simp
        try with_reducible rfl
      try simp only [Act.put, List.getElem_toArray, List.getElem_cons_succ, List.getElem_cons_zero, List.setIfInBounds_toArray, List.set_cons_zero, List.set_cons_succ]
      refine M_one (i := 10) (by decide) (by kernel_rfl) (fun K' hK => ?_)
      try simp only [List.getElem_toArray, List.getElem_cons_succ, List.getElem_cons_zero]
      go_simp
      refine hK.out _ _ (Or.inr (HS.out _ ((Below.refl _ _).alloc (Nat.le_refl _) _).drew)) ?_
      clear hK K'
      try simp only [Act.put, List.getElem_toArray, List.getElem_cons_succ, List.getElem_cons_zero, List.setIfInBounds_toArray, List.set_cons_zero, List.set_cons_succ]
      refine M_one (i := 19) (by decide) (by kernel_rfl) (fun K' hK => ?_)
      refine step_append_sl rfl (.tmp 35) (.tmp 43) 30 rfl 5 j0 (.int .u8 0) 1 1 Try.underlying30 hj jz0 jz1 jz2 rfl (fun _ => False) _ 0 [] rfl (SlAt.nil _ _ _ _ _) (fun k => col k = 1) _ l5.length (bcells l5) rfl ?_ (bcells_one _) ?_ ?_ ?_
      · exact hby.below ((Below.refl _ _).alloc (Nat.le_refl _) _).drew
      · unfold maxLen; omega
      · omega
      intro v6 w6 hs6 hc6
      rw [Nat.zero_add, List.nil_append] at hs6
      obtain ⟨a6, cap6, rfl⟩ := hs6.shape
      have hb6 : Below wr.heap.size wr w6 := ((Below.refl wr.heap.size wr).alloc (Nat.le_refl _) _).drew.trans (hc6.below (by simp) (fun i _ e => e))
      have hr6 : BytesAt w6 (fun k => wr.heap.size ≤ k) (.slice a6 l5.length cap6) l5 := hs6.rd.mono (fun k _ e => by
        rcases e with e | e
        · exact e.elim
        · simp at e; omega)
      refine hK.out _ _ (Or.inr (HS.out _ hb6)) ?_
      clear hK K'
      try simp only [Act.put, List.getElem_toArray, List.getElem_cons_succ, List.getElem_cons_zero, List.setIfInBounds_toArray, List.set_cons_zero, List.set_cons_succ]
      refine M_one (i := 20) (by decide) (by kernel_rfl) (fun K' hK => ?_)
      try simp only [List.getElem_toArray, List.getElem_cons_succ, List.getElem_cons_zero]
      go_simp
      refine hK.out _ _ (Or.inr (HS.out _ hb6)) ?_
      clear hK K'
      try simp only [Act.put, List.getElem_toArray, List.getElem_cons_succ, List.getElem_cons_zero, List.setIfInBounds_toArray, List.set_cons_zero, List.set_cons_succ]
      refine M_one (i := 21) (by decide) (by kernel_rfl) (fun K' hK => ?_)
      try simp only [List.getElem_toArray, List.getElem_cons_succ, List.getElem_cons_zero]
      go_simp
      refine hK.out _ _ (Or.inr (HS.out _ (hb6.alloc hb6.size _))) ?_
      clear hK K'
      try simp only [Act.put, List.getElem_toArray, List.getElem_cons_succ, List.getElem_cons_zero, List.setIfInBounds_toArray, List.set_cons_zero, List.set_cons_succ]
      refine M_one (i := 22) (by decide) (by kernel_rfl) (fun K' hK => ?_)
      refine step_append_sl rfl (.tmp 26) (.tmp 46) 47 rfl 57 i0 (.agg #[.int .i64 0, .slice none 0 0]) 2 32 Try.underlying47 hi hz0 hz1 hz2 rfl (fun k => k < wr.heap.size ∧ colr k = c' + 2) _ qn5 qs5 rfl ?_ (fun k => k = w6.heap.size) _ 1 [.int .i64 N5, .slice a6 l5.length cap6] rfl ?_ ?_ ?_ ?_ ?_
      · exact (h5.list.mono (fun k hk e => ⟨hk, e⟩)).below (below_grow hb6 (Nat.le_refl _) ((Below.refl _ _).alloc (Nat.le_refl _) _))
      · exact rd_new _ _ _ _ _ rfl (by unfold maxLen; omega)
      · simp [Value.oneCell']
      · unfold maxLen; omega
      · omega
      intro v7 w7 hs7 hc7
      have k67 := ((Chg.refl (fun k => k < wr.heap.size ∧ colr k = c' + 2) w6).alloc _).trans hc7
      obtain ⟨z1, z2, z3, z4⟩ := HS.out _ hb6
      have p37 := k67.cellOf z2 hnw
      have f37 := k67.freeOf z2 ((hb6.frozen (p := ⟨w.heap.size, 3, none⟩) hw5).trans f3) hnw
      have hS7 := And.intro (k67.cellOf z1 hnb) (And.intro p37 (And.intro (k67.cellOf z3 hng) (k67.cellOf z4 hng)))
      obtain ⟨a7, cap7, rfl⟩ := hs7.shape
      refine hK.out _ _ (Or.inr hS7) ?_
      clear hK K'
      try simp only [Act.put, List.getElem_toArray, List.getElem_cons_succ, List.getElem_cons_zero, List.setIfInBounds_toArray, List.set_cons_zero, List.set_cons_succ]
      refine M_one (i := 23) (by decide) (by kernel_rfl) (fun K' hK => ?_)
      try simp only [List.getElem_toArray, List.getElem_cons_succ, List.getElem_cons_zero]
      go_simp
      refine hK.out _ _ (Or.inr hS7) ?_
      clear hK K'
      try simp only [Act.put, List.getElem_toArray, List.getElem_cons_succ, List.getElem_cons_zero, List.setIfInBounds_toArray, List.set_cons_zero, List.set_cons_succ]
      refine M_one (i := 24) (by decide) (by kernel_rfl) (fun K' hK => ?_)
      try simp only [List.getElem_toArray, List.getElem_cons_succ, List.getElem_cons_zero]
      go_simp
      refine hK.out _ _ (Or.inl rfl) ?_
      clear hK K'
      try simp only [Act.put, List.getElem_toArray, List.getElem_cons_succ, List.getElem_cons_zero, List.setIfInBounds_toArray, List.set_cons_zero, List.set_cons_succ]
      refine M_done (by kernel_rfl) ?_ _
      obtain ⟨⟨col8, hd8, he8, hn8⟩, hk8⟩ := write_end h5 hc' hb6 hr6 hc7 hs7
      have hs78 := hk8.size
      clear hs7 hc7 k67 p37 f37 hb6 hr6 hs6 hc6 hS7 z1 z2 z3 z4 y1 y2 y3 y4 HS x1 x2 hS0
      generalize w7.setCell ⟨w.heap.size, 3, none⟩ (.slice a7 (qn5 + 1) cap7) = w8 at *
      go_wp2
      go_roundw
      case rel =>
        refine ⟨qn5 + 1, col8, by omega, by go_num, kr.trans (hk8.below hsr (fun i hi e => hcl i hi (by unfold inC at *; rw [← her i hi]; omega))), her.trans he8 hsr, hn8, ?_⟩
        rw [← Htk.out]
        exact hd8
      case measure => simp [intOf]; omega
    · obtain rfl : k = qn := by omega
      go_wp2
      go_ret
      have e : ({ t with pending := t.pending.take k } : DS) = t := by
        rw [List.take_of_length_le (by have := hqn.out; omega)]
      rw [e] at hdr
      exact ⟨⟨_, colr, rfl, Nat.le_refl _, hdr, her, hnr⟩, kr⟩
end Go.Proofs.Ytlkebppmdbgdmaa
