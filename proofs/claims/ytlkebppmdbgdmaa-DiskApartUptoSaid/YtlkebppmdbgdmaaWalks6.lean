/-
  The walks of package disk: Load, Fork.
-/
import Derived.Test.YtlkebppmdbgdmaaWalks4
namespace Go.Proofs.Ytlkebppmdbgdmaa
open Go.RowKit
set_option linter.unusedSimpArgs false
set_option linter.unusedVariables false

theorem cloneSectors_any (w : World) (own : Nat → Prop) (v : Value) (n : Nat) (qs : List Value) (h : RdAt w own 2 v n qs) (h1 : ∀ u ∈ qs, u.oneCell' = true) (hl : n ≤ 1073741824) :
    Calls Try.prog 42 #[v] w fun e w' => Cloned w 57 2 n qs e w' ∧ Below w.heap.size w w' := by
  obtain ⟨i0, hi, hz0, hz1, hz2⟩ := info_parts info57
  obtain ⟨a, cap, rfl, _⟩ := h.shape
  have hk := fun (w : World) a n c => Lib.run_eql_slice_nil (P := Try.prog) w 47 57 a n c 0 0 Try.underlying47
  cases a with
  | none =>
    have hn : n = 0 := by
      rcases Nat.eq_zero_or_pos n with h' | h'
      · exact h'
      · obtain ⟨g, off, e, _⟩ := h.get h'; simp at e
    subst hn
    have hq : qs = [] := List.eq_nil_of_length_eq_zero (by simpa using h.len)
    subst hq
    go_enter Try.func42, Try.ntmps42
    go_wp2
    go_ret
    exact ⟨⟨none, 0, rfl, SlAt.nil _ _ _ _ _⟩, Below.refl _ _⟩
  | some a =>
    go_enter Try.func42, Try.ntmps42
    go_wp2_with (at_builtin; go_must (refine wpList_append_sl rfl _ _ 47 rfl 57 i0 (.agg #[.int .i64 0, .slice none 0 0]) 2 32 Try.underlying47 hi hz0 hz1 hz2 rfl (fun k => w.heap.size ≤ k) _ 0 [] rfl (SlAt.nil _ _ _ _ _) own _ _ _ rfl (h.below ((Below.refl _ _).alloc (Nat.le_refl _) _)) h1 ?_ ?_ ?_); (unfold maxLen; omega); omega; rintro v' w' hs hc)
    go_ret
    obtain ⟨a', cap', rfl⟩ := hs.shape
    simp only [Nat.zero_add, List.nil_append] at hs ⊢
    exact ⟨⟨a', cap', rfl, hs.mono (fun k hk e => by simp at e; omega)⟩, (((Below.refl _ _).alloc (Nat.le_refl _) _).trans (hc.below (by simp) (fun i hi e => by omega)))⟩

def ForkDisk (w : World) (T : TypeId) (col : Nat → Nat) (c : Nat) (s : DS) (e : Ending) (w' : World) : Prop :=
  ∃ b col', e = .returned (.pointer (some ⟨b, 0, none⟩)) ∧ w.heap.size ≤ b ∧ DiskAt w' T col' c b s ∧ Ext w.heap.size col col' ∧ Norm w' col'
def colF (col : Nat → Nat) (n m z c : Nat) (k : Nat) : Nat := if k < n then col k else if z ≤ k then 0 else if k = n then c else if k < m then c + 1 else c + 2

set_option maxHeartbeats 1000000 in
theorem fork_any (w : World) (col : Nat → Nat) (c b : Nat) (s : DS) (h : DiskAt w 69 col c b s) (hs : 0 < s.size) (hp : s.pending.length ≤ 1073741824) (hl : s.platter.length ≤ 1073741824) (c' : Nat) (hc' : 1 < c') :
    Calls Try.prog 29 #[.pointer (some ⟨b, 0, none⟩)] w fun e w' => ForkDisk w 69 col c' s e w' ∧ Below w.heap.size w w' := by
  obtain ⟨pa, pcap, qa, qn, qcap, qs, h⟩ := h
  have c0 := h.size; have c1 := h.count; have c2 := h.platter; have c3 := h.pending; have c4 := h.reads; have c5 := h.writes; have c6 := h.flushes; have c7 := h.stops; have c8 := h.left
  have hqn := Lib.hid h.len
  have hq1 : qn ≤ 1073741824 := by have := hqn.out; omega
  have hb := h.lt
  go_enter Try.func29, Try.ntmps29
  go_wp2_with (go_at_call 35; refine (made_yes h hs).mono ?_; rintro e w' ⟨rfl, rfl⟩)
  have bl0 : (w.alloc (.cells (dcells s (.slice pa s.platter.length pcap) (.slice qa qn qcap)) 69)).heap[w.heap.size]? = some (.cells (dcells s (.slice pa s.platter.length pcap) (.slice qa qn qcap)) 69 (0, 0)) := block_new _ _
  have ka : Below w.heap.size w (w.alloc (.cells (dcells s (.slice pa s.platter.length pcap) (.slice qa qn qcap)) 69)) := (Below.refl _ _).alloc (Nat.le_refl _) _
  have hsz : (w.alloc (.cells (dcells s (.slice pa s.platter.length pcap) (.slice qa qn qcap)) 69)).heap.size = w.heap.size + 1 := by simp
  have Hsz := Lib.hid hsz; clear hsz
  have h0 := h.below ka
  refine (clone_any (w.alloc (.cells (dcells s (.slice pa s.platter.length pcap) (.slice qa qn qcap)) 69)) _ _ _ h0.plat.rd hl).mono ?_
  generalize w.alloc (.cells (dcells s (.slice pa s.platter.length pcap) (.slice qa qn qcap)) 69) = W0 at *
  rintro e w1 ⟨⟨a1, cap1, rfl, hs1⟩, hb1⟩
  have h1 := h0.below hb1
  have bl1 := below_keeps hb1 bl0 (by have := Hsz.out; omega)
  have n2 : w1.cell? ⟨w.heap.size, 2, none⟩ = some (.slice pa s.platter.length pcap) := by rw [cell_of_block bl1]; rfl
  have f2 := free_of_block bl1 2
  have d3 := h1.pending
  have hne : ¬ w.heap.size = b := by omega
  have hz1 := hb1.size
  go_wp2_with fail
  have bl2 := block_set bl1 2 (.slice a1 s.platter.length cap1)
  have k12 : ∀ k, k ≠ w.heap.size → (w1.setCell ⟨w.heap.size, 2, none⟩ (.slice a1 s.platter.length cap1)).heap[k]? = w1.heap[k]? := fun k hk => Below.heap_setCell _ _ _ _ hk
  have hsz2 : (w1.setCell ⟨w.heap.size, 2, none⟩ (.slice a1 s.platter.length cap1)).heap.size = w1.heap.size := by simp
  have k12b : Below w.heap.size w1 (w1.setCell ⟨w.heap.size, 2, none⟩ (.slice a1 s.platter.length cap1)) := (Below.refl w.heap.size w1).setCell (p := ⟨w.heap.size, 2, none⟩) (Nat.le_refl _) _
  have hq := h.list.rd.keep (w' := w1.setCell ⟨w.heap.size, 2, none⟩ (.slice a1 s.platter.length cap1)) (own2 := fun _ => True) (fun k hk e => by
    rw [k12 k (by omega), hb1.block k (by have := Hsz.out; omega), ka.block k hk]) (fun _ _ e => trivial) (by have := Hsz.out; simp; omega)
  refine (cloneSectors_any _ _ _ _ _ hq h1.pend.one hq1).mono ?_
  generalize w1.setCell ⟨w.heap.size, 2, none⟩ (.slice a1 s.platter.length cap1) = W2 at *
  rintro e w3 ⟨⟨a3, cap3, rfl, hs3⟩, hb3⟩
  have bl3 := below_keeps hb3 bl2 (by have := Hsz.out; omega)
  have n3 : w3.cell? ⟨w.heap.size, 3, none⟩ = some (.slice qa qn qcap) := by rw [cell_of_block bl3]; rfl
  have f3 := free_of_block bl3 3
  have Hsz2 := Lib.hid hsz2; clear hsz2
  have hz3 := hb3.size
  go_wp2
  go_ret
  have hs0 := Hsz.out
  have hs2 := Hsz2.out
  have k13 : ∀ k, k < w1.heap.size → k ≠ w.heap.size → (w3.setCell ⟨w.heap.size, 3, none⟩ (.slice a3 qn cap3)).heap[k]? = w1.heap[k]? := fun k hk hn => by
    rw [Below.heap_setCell _ _ _ _ hn, hb3.block k (by omega), k12 k hn]
  have k03 : ∀ k, k < w.heap.size → (w3.setCell ⟨w.heap.size, 3, none⟩ (.slice a3 qn cap3)).heap[k]? = w.heap[k]? := fun k hk => by
    rw [k13 k (by omega) (by omega), hb1.block k (by omega), ka.block k hk]
  have hext : Ext w.heap.size col (colF col w.heap.size w1.heap.size w3.heap.size c') := fun k hk => by simp [colF, hk]
  refine ⟨⟨w.heap.size, colF col w.heap.size w1.heap.size w3.heap.size c', rfl, Nat.le_refl _, ⟨a1, cap1, a3, qn, cap3, qs, ?_, ?_, ?_, ?_, hqn.out, ?_⟩, hext, fun k hk => by simp only [World.size_setCell] at hk; simp only [colF]; rw [if_neg (by omega), if_pos hk]⟩, ?_⟩
  · rw [block_set bl3]
    rfl
  · simp only [colF]
    rw [if_neg (by omega), if_neg (by omega), if_pos trivial]
  · refine hs1.keep (fun k hk e => k13 k hk (by omega)) (fun k hk e => ?_)
    simp only [colF]
    rw [if_neg (by omega), if_neg (by omega), if_neg (by omega), if_pos hk]
  · refine hs3.keep (fun k hk e => Below.heap_setCell _ ⟨w.heap.size, 3, none⟩ _ _ (by simp only; omega)) (fun k hk e => ?_)
    simp only [colF]
    rw [if_neg (by omega), if_neg (by omega), if_neg (by omega), if_neg (by omega)]
  · exact PendC.keep (fun k hk e => k03 k hk) hext (by simp; omega) h.pend
  · exact (((ka.trans (hb1.mono (by omega))).trans k12b).trans (hb3.mono (by omega))).trans ((Below.refl w.heap.size w3).setCell (p := ⟨w.heap.size, 3, none⟩) (Nat.le_refl _) _)

/-! ### Load -/
def loadOk (size : Int) (n : Nat) : Bool := fitsD size 1 && ((n : Int) % size == 0 && fitsD size (n / size))
def DS.load (size : Int) (l : List Int) : DS := { DS.new size (l.length / size) with platter := l }
set_option maxHeartbeats 1000000 in
theorem load_ok (w : World) (size : Int) (own : Nat → Prop) (v : Value) (l : List Int) (hv : BytesAt w own v l) (hok : loadOk size l.length = true) (col : Nat → Nat) (c : Nat) (hc : 1 < c) :
    Calls Try.prog 24 #[.int .i64 size, v] w fun e w' => NewDisk w 69 col c (DS.load size l) e w' ∧ Below w.heap.size w w' := by
  obtain ⟨a, cap, rfl, hmax⟩ := RdAt.shape hv
  obtain ⟨i0, hi, hz0, hz1, hz2⟩ := info_parts info5
  unfold maxLen at hmax
  simp only [loadOk, Bool.and_eq_true, beq_iff_eq] at hok
  obtain ⟨h1, h2, h3⟩ := hok
  obtain ⟨b0, b1, _, _⟩ := fits_bounds h1
  obtain ⟨_, _, b2, b3⟩ := fits_bounds h3
  have H1 := Lib.hid h1; have H3 := Lib.hid h3
  have h2' : ((l.length : Int) % size != 0) = false := by simp [h2]
  have hmul : Hid (size * ((l.length : Int) / size) = l.length) := by
    have := Int.mul_ediv_add_emod (l.length : Int) size
    show _ = _
    rw [h2] at this; omega
  have hn0 : (0 : Int) ≤ (l.length : Int) := by omega
  clear h1 h2 h3
  go_enter Try.func24, Try.ntmps24
  go_wp2_with (go_at_call 34; refine (fits_any _ _ _).mono ?_; rintro e w' ⟨rfl, rfl⟩; (first | rw [H1.out] | rw [H3.out]))
  refine (new_in _ _ _ H3.out col c).mono ?_
  rintro e w1 ⟨rfl, hd, hb1, hzz⟩
  have Hzz := Lib.hid hzz; clear hzz
  have hpl : (DS.new size ((l.length : Int) / size)).platter.length = l.length := by
    simp only [DS.new, zeros, List.length_replicate]; rw [hmul.out]; rfl
  have hpos : 0 < l.length := by
    rcases Nat.eq_zero_or_pos l.length with h | h
    · rw [h] at b2; simp at b2
    · exact h
  obtain ⟨g, off, cur, eg, hcg, hhg, hl1, hl2, hl3, hl4⟩ := hd.placed (by omega)
  injection eg with eg
  injection eg with eg eo
  subst eg eo
  have d2 := hd.platter
  rw [hpl] at d2 hl1 hl4
  have Hpl := Lib.hid hpl; clear hpl
  go_wp2_with (refine wpList_copy_sl rfl (.tmp 39) (.tmp 40) 30 30 rfl 5 i0 Try.underlying30 hi hz1 own _ l.length (bcells l) rfl (hv.below hb1) (bcells_one _) _ w.heap.size 0 l.length _ cur 5 rfl ?_ ?_; exact fun _ => ⟨rfl, hhg, (by rw [show Nat.min l.length l.length = l.length from Nat.min_self _]; omega)⟩; rintro w2 c2 _ k2)
  go_ret2
  have hmin : Nat.min l.length l.length = l.length := Nat.min_self _
  rw [hmin, List.take_of_length_le (by simp)] at c2
  have h2 := hd.copied hc hhg hcg hl3 (by rw [Hpl.out]; exact hl1) hl2 (by rw [Hpl.out]; exact hl4) 0 l (by rw [Hpl.out]; omega) k2 (c2 hpos)
  have e : splice (DS.new size ((l.length : Int) / size)).platter 0 l = l := by
    simp only [splice, List.take_zero, List.nil_append, Nat.zero_add]
    rw [List.drop_of_length_le (by rw [Hpl.out]; exact Nat.le_refl _), List.append_nil]
  rw [e] at h2
  exact ⟨⟨_, _, rfl, by omega, h2.at, col2_ext _ _ _ _, (col2_norm (w' := w1) _ _ _ () Hzz.out).grow k2.size⟩, hb1.trans (k2.below hb1.size (fun i hi e => by omega))⟩
end Go.Proofs.Ytlkebppmdbgdmaa
