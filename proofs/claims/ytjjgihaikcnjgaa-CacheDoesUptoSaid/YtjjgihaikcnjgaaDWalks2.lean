/-
  The walks of package disk: New, Image, at, Write, Pending.
-/
import Derived.Test.YtjjgihaikcnjgaaDWalks1
import Derived.Deep.RegionHeld3
import Derived.StillTailTactics
namespace Go.Proofs.Ytjjgihaikcnjgaa
open Go.RowKit
set_option linter.unusedSimpArgs false
set_option linter.unusedVariables false
set_option maxRecDepth 100000

def zeros (n : Nat) : List Int := List.replicate n 0
theorem madeCells_zeros (n : Nat) : madeCells #[Value.int .u8 0] n = (bcells (zeros n)).toArray := by
  apply Array.ext
  · simp [madeCells, zeros]
  · intro i h1 h2
    have e : i % 1 = 0 := by omega
    simp [madeCells, zeros, bcells, e]
def DS.new (size count : Int) : DS := { size := size, count := count, platter := zeros (size * count).toNat, pending := [], reads := 0, writes := 0, flushes := 0, stops := false, left := 0 }
def NewDisk (w : World) (T : TypeId) (col : Nat → Nat) (c : Nat) (s : DS) (e : Ending) (w' : World) : Prop :=
  ∃ b col', e = .returned (.tuple #[.pointer (some ⟨b, 0, none⟩), .int .i64 0]) ∧ w.heap.size ≤ b ∧ DiskAt w' T col' c b s ∧ Ext w.heap.size col col' ∧ Norm w' col'

theorem fits_bounds {size count : Int} (h : fitsD size count = true) : 512 ≤ size ∧ size ≤ 4096 ∧ 1 ≤ count ∧ count ≤ 4096 := by
  simp [fitsD, pow2B] at h; omega
theorem mul_bounds {a b : Int} (h0 : 0 ≤ a) (h1 : a ≤ 4096) (h2 : 0 ≤ b) (h3 : b ≤ 4096) : 0 ≤ a * b ∧ a * b ≤ 16777216 :=
  ⟨Int.mul_nonneg h0 h2, by have h := Int.mul_le_mul h1 h3 h2 (by omega); omega⟩

theorem new_no (w : World) (size count : Int) (h : fitsD size count = false) :
    Calls Try.prog 31 #[.int .i64 size, .int .i64 count] w fun e w' => e = .returned (.tuple #[.pointer none, .int .i64 1]) ∧ w = w' := by
  have H := Lib.hid h; clear h
  go_enter Try.func31, Try.ntmps31
  go_wp2_with (go_at_call 65; refine (fits_any _ _ _).mono ?_; rintro e w' ⟨rfl, rfl⟩; rw [H.out])
  go_ret2
  exact ⟨rfl, rfl⟩
/-- colours for two new blocks -/
def col2 (col : Nat → Nat) (n x y : Nat) (k : Nat) : Nat := if k < n then col k else if k = n then x else if k = n + 1 then y else 0
theorem col2_a (col : Nat → Nat) (n x y : Nat) : col2 col n x y n = x := by unfold col2; rw [if_neg (by omega), if_pos rfl]
theorem col2_b (col : Nat → Nat) (n x y : Nat) : col2 col n x y (n + 1) = y := by unfold col2; rw [if_neg (by omega), if_neg (by omega), if_pos rfl]
theorem new_in (w : World) (size count : Int) (h : fitsD size count = true) (col : Nat → Nat) (c : Nat) :
    Calls Try.prog 31 #[.int .i64 size, .int .i64 count] w fun e w' => e = .returned (.tuple #[.pointer (some ⟨w.heap.size + 1, 0, none⟩), .int .i64 0]) ∧
      DiskIn w' 86 (col2 col w.heap.size (c + 1) c) c (w.heap.size + 1) (DS.new size count) (some ⟨w.heap.size, 0, none⟩) (size * count).toNat none 0 0 [] ∧ Below w.heap.size w w' ∧ w'.heap.size = w.heap.size + 2 := by
  obtain ⟨a0, a1, a2, a3⟩ := fits_bounds h
  obtain ⟨m0, m1⟩ := mul_bounds (a := size) (b := count) (by omega) a1 (by omega) a3
  obtain ⟨i0, hi, hz0, hz1, hz2⟩ := info_parts info5
  have hmk : ∀ u : World, (Instr.makeSlice 34 (.int .i64 (size * count)) (.int .i64 (size * count))).run Try.prog u =
      .ok (.slice (some ⟨u.heap.size, 0, none⟩) (size * count).toNat (size * count).toNat) (u.alloc (.cells (bcells (zeros (size * count).toNat)).toArray 5)) := fun u => by
    have h := run_make (P := Try.prog) u 34 5 i0 (.int .u8 0) Try.underlying34 hi hz0 .i64 .i64 (size * count) (size * count) m0 (Int.le_refl _) (by rw [hz2]; omega) (by omega)
    rw [hz1, Nat.mul_one] at h
    rw [← madeCells_zeros]
    exact h
  have hmul : IntKind.i64.wrap (size * count) = size * count := IntWalk.i64_in _ (by omega)
  have H := Lib.hid h; clear h
  have H2 := Lib.hid (show (DS.new size count).platter.length = (size * count).toNat by simp [DS.new, zeros])
  go_enter Try.func31, Try.ntmps31
  go_wp2_with (go_at_call 65; refine (fits_any _ _ _).mono ?_; rintro e w' ⟨rfl, rfl⟩; rw [H.out])
  go_ret2
  have hlen : (zeros (size * count).toNat).length = (size * count).toNat := by simp [zeros]
  refine ⟨rfl, ⟨?_, ?_, ?_, SlAt.nil _ _ _ _ _, rfl, rfl⟩, ((Below.refl _ _).alloc (Nat.le_refl _) _).alloc (by simp) _, by simp⟩
  · simp only [DS.new, dcells, hlen]
    rw [show w.heap.size + 1 = (w.alloc (.cells (bcells (zeros (size * count).toNat)).toArray 5)).heap.size by simp]
    exact block_new _ _
  · exact col2_b _ _ _ _
  · simp only [DS.new, hlen]
    refine ⟨by simp [zeros], Or.inr ⟨w.heap.size, 0, _, _, rfl, col2_a _ _ _ _, block_old _ (block_new _ _), Nat.le_refl _, by unfold maxLen; omega, by simp [zeros], ?_⟩⟩
    simp [zeros, bcells]
theorem col2_ext (col : Nat → Nat) (n x y : Nat) : Ext n col (col2 col n x y) := fun k hk => by
  simp only [col2]
  rw [if_pos hk]
theorem col2_norm {w' : World} {n : Nat} (col : Nat → Nat) (x y : Nat) (_ : Unit) (hz : w'.heap.size = n + 2) : Norm w' (col2 col n x y) := fun k hk => by
  simp only [col2]
  rw [if_neg (by omega), if_neg (by omega), if_neg (by omega)]
theorem new_ok (w : World) (size count : Int) (h : fitsD size count = true) (col : Nat → Nat) (c : Nat) :
    Calls Try.prog 31 #[.int .i64 size, .int .i64 count] w fun e w' => NewDisk w 86 col c (DS.new size count) e w' ∧ Below w.heap.size w w' := by
  refine (new_in w size count h col c).mono ?_
  rintro e w' ⟨rfl, hd, hb, hz⟩
  exact ⟨⟨_, _, rfl, by omega, hd.at, col2_ext _ _ _ _, col2_norm _ _ _ () hz⟩, hb⟩

/-! ### Image -/
theorem image_any (w : World) (col : Nat → Nat) (c b : Nat) (s : DS) (h : DiskAt w 86 col c b s) (hs : 0 < s.size) (hl : s.platter.length ≤ 1073741824) :
    Calls Try.prog 64 #[.pointer (some ⟨b, 0, none⟩)] w fun e w' => Cloned w 5 1 s.platter.length (bcells s.platter) e w' ∧ Below w.heap.size w w' := by
  obtain ⟨pa, pcap, qa, qn, qcap, qs, h⟩ := h
  have h0 := h.size
  have h1 := h.platter
  have hp := h.plat.rd
  go_enter Try.func64, Try.ntmps64
  go_wp2_with (first | (go_at_call 34; refine (clone_any _ _ _ _ hp hl).mono ?_; rintro e w' ⟨⟨a', cap', rfl, hs'⟩, hb'⟩) | go_in)
  go_ret
  exact ⟨⟨a', cap', rfl, hs'⟩, hb'⟩

/-! ### at: a sector's place -/
theorem at_any (w : World) (col : Nat → Nat) (c b : Nat) (s : DS) (pa : Option Addr) (pcap : Nat) (qa : Option Addr) (qn qcap : Nat) (qs : List Value) (h : DiskIn w 86 col c b s pa pcap qa qn qcap qs)
    (n : Int) (h0 : 0 ≤ s.size) (h1 : s.size ≤ 4096) (h2 : s.count ≤ 4096) (hn0 : 0 ≤ n) (hn1 : n < s.count) (hlen : (s.platter.length : Int) = s.size * s.count) (hpos : 0 < s.size) :
    ∃ g off, pa = some ⟨g, off, none⟩ ∧ Calls Try.prog 50 #[.pointer (some ⟨b, 0, none⟩), .int .i64 n] w fun e w' =>
      e = .returned (.slice (some ⟨g, off + (n * s.size).toNat, none⟩) s.size.toNat (pcap - (n * s.size).toNat)) ∧ Below w.heap.size w w' := by
  have c0 := h.size
  have c2 := h.platter
  obtain ⟨m0, m1⟩ := mul_bounds (a := n) (b := s.size) (by omega) (by omega) h0 h1
  have hlt : n * s.size + s.size ≤ s.size * s.count := by
    have := Int.mul_le_mul_of_nonneg_right (show n + 1 ≤ s.count by omega) h0
    rw [Int.add_mul, Int.one_mul, Int.mul_comm s.count] at this
    exact this
  have hmul : (n + 1) * s.size = n * s.size + s.size := by rw [Int.add_mul, Int.one_mul]
  rcases h.plat.2 with ⟨a, e1, e2⟩ | ⟨g, off, cap, cur, e1, ho, hh, l1, l2, l3, l4⟩
  · omega
  · injection e1 with e1 _ e3
    subst e1 e3
    refine ⟨g, off, rfl, ?_⟩
    have w1 : IntKind.i64.wrap (n * s.size) = n * s.size := IntWalk.i64_in _ (by omega)
    have w2 : IntKind.i64.wrap (n + 1) = n + 1 := IntWalk.i64_in _ (by omega)
    have w3 : IntKind.i64.wrap ((n + 1) * s.size) = n * s.size + s.size := by rw [hmul]; exact IntWalk.i64_in _ (by omega)
    have b1 : 0 ≤ n * s.size + s.size := by omega
    have b2 : n * s.size ≤ n * s.size + s.size := by omega
    have b3 : n * s.size + s.size ≤ (pcap : Int) := by omega
    have b4 : n * s.size + s.size ≤ (s.platter.length : Int) := by omega
    clear hmul
    go_enter Try.func50, Try.ntmps50
    go_wp2
    go_region
    go_wp2
    go_ret
    have e : (n * s.size + s.size).toNat - (n * s.size).toNat = s.size.toNat := by omega
    exact ⟨by rw [← e]; rfl, (Below.refl _ _).drew⟩

/-! ### Write -/
theorem info88 : (Try.prog.info? 88).map (fun i => (i.zero, i.size, i.bytes)) = some (some (.agg #[.int .i64 0, .slice none 0 0]), 2, 32) := by kernel_rfl
def DS.write (s : DS) (n : Int) (l : List Int) : DS := if s.alive then { s.tick with writes := wrap64 (s.writes + 1), pending := s.pending ++ [(n, l)] } else s
theorem write_bad (w : World) (col : Nat → Nat) (c b : Nat) (s : DS) (n : Int) (own : Nat → Prop) (v : Value) (l : List Int) (h : DiskAt w 86 col c b s) (hs : 0 < s.size) (hv : BytesAt w own v l) (hn : ¬ (0 ≤ n ∧ n < s.count ∧ (l.length : Int) = s.size)) :
    Calls Try.prog 47 #[.pointer (some ⟨b, 0, none⟩), .int .i64 n, v] w fun e w' => e = .returned (.int .i64 30) ∧ w = w' := by
  obtain ⟨pa, pcap, qa, qn, qcap, qs, h⟩ := h
  obtain ⟨a, cap, rfl⟩ := hv.shape
  have c0 := h.size
  have c1 := h.count
  have hm : ∀ (x y : Int), x ≠ y → (x != y) = true := fun x y h => by simp [h]
  by_cases h0 : 0 ≤ n
  · by_cases h1 : n < s.count
    · have h2 : ((l.length : Int) != s.size) = true := hm _ _ (fun e => hn ⟨h0, h1, e⟩)
      clear hn hm
      go_enter Try.func47, Try.ntmps47
      go_wp2
      go_ret
      exact ⟨rfl, rfl⟩
    · clear hn hm
      go_enter Try.func47, Try.ntmps47
      go_wp2
      go_ret
      exact ⟨rfl, rfl⟩
  · clear hn hm
    go_enter Try.func47, Try.ntmps47
    go_wp2
    go_ret
    exact ⟨rfl, rfl⟩

def colW (col : Nat → Nat) (n m z c : Nat) (k : Nat) : Nat := if k < n then col k else if z ≤ k then 0 else if k = m then c + 2 else 1
theorem write_end {T : TypeId} {W5 w6 w7 : World} {col : Nat → Nat} {c b : Nat} {s : DS} {pa : Option Addr} {pcap : Nat} {qa : Option Addr} {qn qcap : Nat} {qs : List Value} {n : Int} {l : List Int} {a' a7 : Option Addr} {cap' n7 cap7 : Nat} {o : Obj}
    (h5 : DiskIn W5 T col c b s pa pcap qa qn qcap qs) (hc : 1 < c) (hb6 : Below W5.heap.size W5 w6) (hs6 : BytesAt w6 (fun k => W5.heap.size ≤ k) (.slice a' l.length cap') l)
    (hc7 : Chg (fun k => k < W5.heap.size ∧ col k = c + 2) (w6.alloc o) w7)
    (hs7 : SlAt w7 (fun k => (k < W5.heap.size ∧ col k = c + 2) ∨ k = (w6.alloc o).heap.size) 88 2 (.slice a7 n7 cap7) (qn + 1) (qs ++ [.int .i64 n, .slice a' l.length cap'])) :
    (∃ col', DiskAt (w7.setCell ⟨b, 3, none⟩ (.slice a7 n7 cap7)) T col' c b { s with pending := s.pending ++ [(n, l)] } ∧ Ext W5.heap.size col col' ∧ Norm (w7.setCell ⟨b, 3, none⟩ (.slice a7 n7 cap7)) col') ∧ Chg (inC col c) W5 (w7.setCell ⟨b, 3, none⟩ (.slice a7 n7 cap7)) := by
  have hcol := h5.color
  have b5 := h5.lt
  have hin : inC col c b := by unfold inC; omega
  have hn7 : n7 = qn + 1 := by
    rcases hs7.2 with ⟨a, e, e2⟩ | ⟨g, off, cap, cur, e, _⟩
    · omega
    · injection e
  subst hn7
  have k67 : Chg (fun k => k < W5.heap.size ∧ col k = c + 2) w6 w7 := ((Chg.refl _ w6).alloc _).trans hc7
  have k57 : Chg (fun k => k < W5.heap.size ∧ col k = c + 2) W5 w7 := (Chg.of_below hb6).trans k67
  have kin : Chg (inC col c) W5 w7 := k57.mono (fun i _ e => by unfold inC; omega)
  have hsz := hb6.size
  have hsz7 := hc7.size
  simp only [World.size_alloc] at hsz7 hs7
  have hext : Ext W5.heap.size col (colW col W5.heap.size (w6.heap.size + 1) w7.heap.size c) := fun k hk => by simp [colW, hk]
  have hblk : ∀ k, k ≠ b → (w7.setCell ⟨b, 3, none⟩ (.slice a7 (qn + 1) cap7)).heap[k]? = w7.heap[k]? := fun k hk => Below.heap_setCell _ _ _ _ hk
  refine ⟨⟨_, ⟨pa, pcap, a7, qn + 1, cap7, qs ++ [.int .i64 n, .slice a' l.length cap'], ?_, ?_, ?_, ?_, ?_, ?_⟩, hext, fun k hk => by simp only [World.size_setCell] at hk; simp only [colW]; rw [if_neg (by omega), if_pos hk]⟩, kin.trans (Chg.of_set _ _ _ _ hin)⟩
  · have := k57.keeps h5.block (by rintro ⟨_, e⟩; omega)
    rw [block_set this]
    rfl
  · rw [hext b b5]; exact hcol
  · refine h5.plat.keep (fun k hk e => ?_) (fun k hk e => by rw [hext k hk]; exact e)
    rw [hblk k (fun e' => by subst e'; omega)]
    exact k57.block k hk (by rintro ⟨_, e'⟩; omega)
  · refine hs7.keep (fun k hk e => ?_) (fun k hk e => ?_)
    · refine hblk k (fun e' => ?_)
      subst e'
      rcases e with ⟨_, e⟩ | e <;> omega
    · rcases e with ⟨e1, e2⟩ | e
      · rw [hext k e1]; exact e2
      · subst e; simp only [colW]; rw [if_neg (by omega), if_neg (by omega)]; simp
  · simp [h5.len]
  · refine PendC.append (p := (n, l)) ?_ (PendC.keep (fun k hk e => ?_) hext ?_ h5.pend)
    · refine RdAt.keep hs6 (fun k hk e => ?_) (fun k hk e => ?_) ?_
      · rw [hblk k (fun e' => by subst e'; omega)]
        exact k67.block k hk (by rintro ⟨e', _⟩; omega)
      · simp only [colW]; rw [if_neg (by omega), if_neg (by omega), if_neg (by omega)]
      · simp; omega
    · rw [hblk k (fun e' => by subst e'; omega)]
      exact k57.block k hk (by rintro ⟨_, e'⟩; omega)
    · simp; omega
theorem nm34 : (Try.f34.name == "runtime.NumGoroutine") = false := by kernel_rfl
theorem bd34 : Try.f34.body.isNone = false := by kernel_rfl
theorem write_ok (w : World) (col : Nat → Nat) (c b : Nat) (s : DS) (n : Int) (own : Nat → Prop) (v : Value) (l : List Int) (h : DiskAt w 86 col c b s) (hc : 1 < c) (hs : 0 < s.size) (hl : 0 ≤ s.left ∧ s.left ≤ 9223372036854775807)
    (hv : BytesAt w own v l) (hn0 : 0 ≤ n) (hn1 : n < s.count) (hlen : (l.length : Int) = s.size) (hsz : s.size ≤ 4096) (hp : s.pending.length ≤ 1073741824) (ho : ∀ k, own k → ¬ inC col c k) (hnm : Norm w col) :
    Calls Try.prog 47 #[.pointer (some ⟨b, 0, none⟩), .int .i64 n, v] w fun e w' => e = .returned (.int .i64 0) ∧ (∃ col', DiskAt w' 86 col' c b (s.write n l) ∧ Ext w.heap.size col col' ∧ Norm w' col') ∧ Chg (inC col c) w w' := by
  obtain ⟨pa, pcap, qa, qn, qcap, qs, h⟩ := h
  obtain ⟨a, cap, rfl⟩ := hv.shape
  obtain ⟨i0, hi, hz0, hz1, hz2⟩ := info_parts info88
  have c0 := h.size
  have c1 := h.count
  have h2 : ((l.length : Int) != s.size) = false := by simp [hlen]
  have Hlen := Lib.hid hlen; clear hlen
  cases ha : s.alive with
  | false =>
    have e : s.write n l = s := by simp [DS.write, ha]
    have et : s.tick = s := by cases s; simp_all [DS.alive, DS.tick]
    rw [e]
    have hg := Lib.hid (goes_any h hc hl)
    rw [ha, et] at hg
    clear ha e et
    go_enter Try.func47, Try.ntmps47
    go_wp2_with (first | (go_at_call 73; refine hg.out.mono ?_; rintro e w' ⟨rfl, h', hc'⟩) | go_in)
    go_ret
    exact ⟨rfl, ⟨col, h'.at, Ext.refl _ _, hnm.grow hc'.size⟩, hc'⟩
  | true =>
    have e : s.write n l = { s.tick with writes := wrap64 (s.writes + 1), pending := s.pending ++ [(n, l)] } := by simp [DS.write, ha]
    rw [e]
    have hg := Lib.hid (goes_any h hc hl)
    rw [ha] at hg
    clear ha e
    go_enter Try.func47, Try.ntmps47
    go_wp2_with (first | (go_at_call 73; refine hg.out.mono ?_; rintro e w' ⟨rfl, h', hc'⟩; (have c5 := h'.writes); (have f5 := h'.free 5)) | go_in)
    have hin : inC col c b := by unfold inC; have := h.color; omega
    have h5 := h'.store hc { s.tick with writes := wrap64 (s.tick.writes + 1) } 5 _ rfl rfl rfl
    have k5 : Chg (inC col c) w (w'.setCell ⟨b, 5, none⟩ (.int .i64 (wrap64 (s.tick.writes + 1)))) := hc'.trans (Chg.of_set _ _ _ _ hin)
    have hv5 := hv.chg k5 ho
    generalize hW : w'.setCell ⟨b, 5, none⟩ (.int .i64 (wrap64 (s.tick.writes + 1))) = W5 at *
    clear hW c5 f5 hc' h'
    have b5 := h5.lt
    have p3 := h5.pending
    have f3 := h5.free 3
    have hlen5 : qn ≤ 1073741824 := by have := h5.len; simp only at this; rw [this]; exact hp
    go_region_law (first | (refine step_call_fn rfl 34 Try.f34 _ _ rfl Try.func34 nm34 bd34 #[.slice a l.length cap] ?_ ?_; go_must (simp [Act.eval, Act.put]); go_must (refine (clone_any W5.drew own _ l hv5 (by have := Hlen.out; omega)).mono ?_); go_must (rintro e w6 ⟨⟨a', cap', rfl, hs6⟩, hb60⟩); (have hb6 := below_undrew hb60); clear hb60; go_must (refine ⟨_, rfl, ?_⟩); (have p36 := (hb6.cell (p := ⟨b, 3, none⟩) b5).trans p3); (have f36 := (hb6.frozen (p := ⟨b, 3, none⟩) b5).trans f3); (have b6 : b < w6.heap.size := Nat.lt_of_lt_of_le b5 hb6.size)) | (refine step_append_sl rfl (.tmp 38) (.tmp 43) 84 rfl 88 i0 (.agg #[.int .i64 0, .slice none 0 0]) 2 32 Try.underlying84 hi hz0 hz1 hz2 rfl (fun k => k < W5.heap.size ∧ col k = c + 2) _ qn qs rfl ?_ (fun k => k = w6.heap.size) _ 1 [.int .i64 n, .slice a' l.length cap'] rfl ?_ ?_ ?_ ?_ ?_; exact (h5.list.mono (fun k hk e => ⟨hk, e⟩)).below (below_grow hb6 (Nat.le_refl _) ((Below.refl _ _).alloc (Nat.le_refl _) _)); exact rd_new _ _ _ _ _ rfl (by unfold maxLen; omega); simp [Value.oneCell']; (unfold maxLen; omega); omega; intro v7 w7 hs7 hc7; (have k67 := ((Chg.refl (fun k => k < W5.heap.size ∧ col k = c + 2) w6).alloc _).trans hc7); (have p37 := k67.cellOf p36 (by rintro ⟨_, e⟩; have := h5.color; simp only at e; omega)); (have f37 := k67.freeOf p36 f36 (by rintro ⟨_, e⟩; have := h5.color; simp only at e; omega)); obtain ⟨a7, cap7, rfl⟩ := hs7.shape))
    all_goals go_wp2
    all_goals go_ret
    all_goals
      have hend := write_end h5 hc hb6 hs6.rd hc7 hs7
      obtain ⟨⟨col', hd, he, hnm'⟩, hk⟩ := hend
      have hsz5 := k5.size
      exact ⟨rfl, ⟨col', hd, fun k hk => he k (by omega), hnm'⟩, k5.trans hk⟩
end Go.Proofs.Ytjjgihaikcnjgaa
