/-
  The walk of the law's 'step': a call on both.
-/
import Derived.Test.YtlkebppmdbgdmaaRefLaw
import Derived.Test.YtlkebppmdbgdmaaMakes
namespace Go.Proofs.Ytlkebppmdbgdmaa
open Go.RowKit
set_option linter.unusedSimpArgs false
set_option linter.unusedVariables false

noncomputable def stepS (s : DS) (o : OpD) : DS :=
  if o.kind = 1 then s.wrote o.n (filled (s.size + o.more.tmod 8) o.byte)
  else if o.kind = 2 then (if 0 ≤ o.n ∧ o.n < s.count then s.read else s)
  else if o.kind = 3 then s.flush
  else if o.kind = 5 then s.crashed o.keep
  else if o.kind = 9 then s.stop o.n
  else s
/-- both disks went on: first the one, then the other -/
def Both (c d : Nat) (col : Nat → Nat) (b b2 : Nat) (s : DS) (w w' : World) : Prop :=
  ∃ colm wm col', Step c col colm w wm ∧ Step d colm col' wm w' ∧ DiskAt w' 69 col' c b s ∧ RefAt w' col' d b2 s
def opv (o : OpD) (a : Option Addr) (cap : Nat) : Value := .agg #[.int .i64 o.kind, .int .i64 o.n, .int .u8 o.byte, .int .i64 o.more, .slice a o.keep.length cap]

set_option maxRecDepth 100000 in
set_option maxHeartbeats 2000000 in
theorem step_flush (w : World) (col : Nat → Nat) (c d b b2 : Nat) (s : DS) (o : OpD) (a : Option Addr) (cap : Nat) (hd : DiskAt w 69 col c b s) (hx : RefAt w col d b2 s) (ok : s.Ok) (hnm : Norm w col) (hc : 1 < c) (hd1 : 1 < d) (hcd : d + 2 < c ∨ c + 2 < d) (hp : s.pending.length ≤ 1073741824) (hk : o.kind = 3) : Calls Try.prog 30 #[.pointer (some ⟨b, 0, none⟩), .pointer (some ⟨b2, 0, none⟩), opv o a cap] w fun e w' => e = .returned (.bool true) ∧ Both c d col b b2 s.flush w w' := by
  have q1 : (o.kind == 1) = false := by simp [hk]
  have q2 : (o.kind == 2) = false := by simp [hk]
  have q3 : (o.kind == 3) = true := by simp [hk]
  clear hk
  have kB : Below w.heap.size w (w.alloc (.cells #[.int .i64 o.kind, .int .i64 o.n, .int .u8 o.byte, .int .i64 o.more, .slice a o.keep.length cap] 32)) := (Below.refl _ _).alloc (Nat.le_refl _) _
  have hd2 := hd.below kB
  have hx2 := hx.below kB
  have hn2 := hnm.grow kB.size
  have st0 : Step c col col w _ := Step.below hnm kB
  have hne : ((s.pending.length : Int) == (s.pending.length : Int)) = true := by simp
  unfold opv
  go_enter Try.func30, Try.ntmps30
  go_wp2_with fail
  refine (flush_law _ _ _ _ _ hd2 hc ok hn2 hp).mono ?_
  rintro e w3 ⟨rfl, col3, hd3, st3⟩
  have hx3 := st3.refAt hc hcd hx2
  go_wp2_with fail
  refine (refflush_law hx3 ok st3.norm hd1 hp).mono ?_
  rintro e w4 ⟨rfl, col4, hx4, st4⟩
  go_wp2_with fail
  go_ret
  exact ⟨rfl, col3, w3, col4, st0.trans st3, st4, st4.other hd1 (by omega) hd3, hx4⟩
set_option maxRecDepth 100000 in
set_option maxHeartbeats 2000000 in
theorem step_pending (w : World) (col : Nat → Nat) (c d b b2 : Nat) (s : DS) (o : OpD) (a : Option Addr) (cap : Nat) (hd : DiskAt w 69 col c b s) (hx : RefAt w col d b2 s) (ok : s.Ok) (hnm : Norm w col) (hc : 1 < c) (hd1 : 1 < d) (hcd : d + 2 < c ∨ c + 2 < d) (hp : s.pending.length ≤ 1073741824) (hk : o.kind = 4) : Calls Try.prog 30 #[.pointer (some ⟨b, 0, none⟩), .pointer (some ⟨b2, 0, none⟩), opv o a cap] w fun e w' => e = .returned (.bool true) ∧ Both c d col b b2 (s) w w' := by
  have q1 : (o.kind == 1) = false := by simp [hk]
  have q2 : (o.kind == 2) = false := by simp [hk]
  have q3 : (o.kind == 3) = false := by simp [hk]
  have q4 : (o.kind == 4) = true := by simp [hk]
  clear hk
  have kB : Below w.heap.size w (w.alloc (.cells #[.int .i64 o.kind, .int .i64 o.n, .int .u8 o.byte, .int .i64 o.more, .slice a o.keep.length cap] 32)) := (Below.refl _ _).alloc (Nat.le_refl _) _
  have hd2 := hd.below kB
  have hx2 := hx.below kB
  have hn2 := hnm.grow kB.size
  have st0 : Step c col col w _ := Step.below hnm kB
  have hse : Hid ((s.sectors == s.sectors) = true) := by show _ = _; simp
  unfold opv
  go_enter Try.func30, Try.ntmps30
  go_wp2_with fail
  refine (pending_law _ _ _ _ _ hd2 ok hn2 hp).mono ?_
  rintro e w3 ⟨⟨a3, cap3, rfl, r3⟩, k3⟩
  have hd3 := hd2.below k3
  have hx3 := hx2.below k3
  have hn3 := hn2.grow k3.size
  go_wp2_with fail
  refine (refpending_law hx3 hn3 hp).mono ?_
  rintro e w4 ⟨⟨a4, cap4, rfl, r4⟩, k4⟩
  go_wp2_with fail
  refine (sameInts_any _ _ _ _ _ _ _ (r3.below k4) r4).mono ?_
  rw [hse.out]
  rintro e w5 ⟨rfl, k5⟩
  go_wp2_with fail
  go_ret
  have kk := below_grow (below_grow k3 (Nat.le_refl _) k4) (Nat.le_refl _) k5
  have st : Step c col col w w5 := st0.trans (Step.below hn2 kk)
  exact ⟨rfl, col, w5, col, st, Step.below (hn2.grow kk.size) (Below.refl _ _), hd2.below kk, hx2.below kk⟩
set_option maxRecDepth 100000 in
set_option maxHeartbeats 2000000 in
theorem step_stop (w : World) (col : Nat → Nat) (c d b b2 : Nat) (s : DS) (o : OpD) (a : Option Addr) (cap : Nat) (hd : DiskAt w 69 col c b s) (hx : RefAt w col d b2 s) (ok : s.Ok) (hnm : Norm w col) (hc : 1 < c) (hd1 : 1 < d) (hcd : d + 2 < c ∨ c + 2 < d) (hp : s.pending.length ≤ 1073741824) (hk : o.kind = 9) : Calls Try.prog 30 #[.pointer (some ⟨b, 0, none⟩), .pointer (some ⟨b2, 0, none⟩), opv o a cap] w fun e w' => e = .returned (.bool true) ∧ Both c d col b b2 (s.stop o.n) w w' := by
  have q1 : (o.kind == 1) = false := by simp [hk]
  have q2 : (o.kind == 2) = false := by simp [hk]
  have q3 : (o.kind == 3) = false := by simp [hk]
  have q4 : (o.kind == 4) = false := by simp [hk]
  have q5 : (o.kind == 5) = false := by simp [hk]
  have q6 : (o.kind == 6) = false := by simp [hk]
  have q9 : (o.kind == 9) = true := by simp [hk]
  clear hk
  have kB : Below w.heap.size w (w.alloc (.cells #[.int .i64 o.kind, .int .i64 o.n, .int .u8 o.byte, .int .i64 o.more, .slice a o.keep.length cap] 32)) := (Below.refl _ _).alloc (Nat.le_refl _) _
  have hd2 := hd.below kB
  have hx2 := hx.below kB
  have hn2 := hnm.grow kB.size
  have st0 : Step c col col w _ := Step.below hnm kB
  unfold opv
  go_enter Try.func30, Try.ntmps30
  go_wp2_with fail
  refine (stop_law _ _ _ _ _ hd2 hc ok hn2 _).mono ?_
  rintro e w3 ⟨rfl, col3, hd3, st3⟩
  have hx3 := st3.refAt hc hcd hx2
  have cN : w3.cell? ⟨w.heap.size, 1, none⟩ = some (.int .i64 o.n) := (st3.chg.cell (p := ⟨w.heap.size, 1, none⟩) (by simp) (by have := hnm w.heap.size (Nat.le_refl _); unfold inC; simp only; omega)).trans (by rw [cell_of_block (block_new _ _)]; rfl)
  go_wp2_with fail
  refine (refstop_law hx3 st3.norm hd1 _).mono ?_
  rintro e w4 ⟨rfl, col4, hx4, st4⟩
  go_wp2_with fail
  go_ret
  exact ⟨rfl, col3, w3, col4, st0.trans st3, st4, st4.other hd1 (by omega) hd3, hx4⟩
set_option maxRecDepth 100000 in
set_option maxHeartbeats 2000000 in
theorem step_off (w : World) (col : Nat → Nat) (c d b b2 : Nat) (s : DS) (o : OpD) (a : Option Addr) (cap : Nat) (hd : DiskAt w 69 col c b s) (hx : RefAt w col d b2 s) (ok : s.Ok) (hnm : Norm w col) (hc : 1 < c) (hd1 : 1 < d) (hcd : d + 2 < c ∨ c + 2 < d) (hp : s.pending.length ≤ 1073741824) (hk : o.kind = 10) : Calls Try.prog 30 #[.pointer (some ⟨b, 0, none⟩), .pointer (some ⟨b2, 0, none⟩), opv o a cap] w fun e w' => e = .returned (.bool true) ∧ Both c d col b b2 (s) w w' := by
  have q1 : (o.kind == 1) = false := by simp [hk]
  have q2 : (o.kind == 2) = false := by simp [hk]
  have q3 : (o.kind == 3) = false := by simp [hk]
  have q4 : (o.kind == 4) = false := by simp [hk]
  have q5 : (o.kind == 5) = false := by simp [hk]
  have q6 : (o.kind == 6) = false := by simp [hk]
  have q9 : (o.kind == 9) = false := by simp [hk]
  have q10 : (o.kind == 10) = true := by simp [hk]
  clear hk
  have kB : Below w.heap.size w (w.alloc (.cells #[.int .i64 o.kind, .int .i64 o.n, .int .u8 o.byte, .int .i64 o.more, .slice a o.keep.length cap] 32)) := (Below.refl _ _).alloc (Nat.le_refl _) _
  have hd2 := hd.below kB
  have hx2 := hx.below kB
  have hn2 := hnm.grow kB.size
  have st0 : Step c col col w _ := Step.below hnm kB
  have hoo : (s.off == s.off) = true := by simp
  unfold opv
  go_enter Try.func30, Try.ntmps30
  go_wp2_with fail
  refine (off_law _ _ _ _ _ hd2 ok).mono ?_
  rintro e w3 ⟨rfl, rfl⟩
  go_wp2_with fail
  refine (refoff_law hx2).mono ?_
  rintro e w4 ⟨rfl, rfl⟩
  go_wp2_with fail
  go_ret
  exact ⟨by simp, col, _, col, st0, Step.below hn2 (Below.refl _ _), hd2, hx2⟩
theorem crash_lawC (w : World) (col : Nat → Nat) (c b : Nat) (s : DS) (v : Value) (keep : List Int) (h : DiskAt w 69 col c b s) (hc : 1 < c) (ok : s.Ok) (hnm : Norm w col) (hp : s.pending.length ≤ 1073741824) (hv : RdAt w (Nil0 col) 1 v keep.length (keep.map (Value.int .i64))) :
    Calls Try.prog 16 #[.pointer (some ⟨b, 0, none⟩), v] w fun e w' => e = .returned (.int .i64 (s.ccode keep)) ∧ Did 69 c col b (s.crashed keep) w w' := by
  refine (crash_law w col c b s v keep h hc ok hnm hp hv).mono ?_
  unfold DS.ccode DS.crashed
  rintro e w' (⟨hk, rfl, hd⟩ | ⟨hk, rfl, hd⟩)
  · rw [if_pos hk, if_pos hk]; exact ⟨rfl, hd⟩
  · rw [if_neg hk, if_neg hk]; exact ⟨rfl, hd⟩
theorem refcrash_lawC {w : World} {col : Nat → Nat} {c b : Nat} {s : DS} (h : RefAt w col c b s) (ok : s.Ok) (hnm : Norm w col) (hc : 1 < c) (hp : s.pending.length ≤ 1073741824) (v : Value) (keep : List Int) (hv : RdAt w (Nil0 col) 1 v keep.length (keep.map (Value.int .i64))) :
    Calls Try.prog 47 #[.pointer (some ⟨b, 0, none⟩), v] w fun e w' => e = .returned (.int .i64 (s.ccode keep)) ∧ RDid c col b (s.crashed keep) w w' := by
  refine (refcrash_law h ok hnm hc hp v keep hv).mono ?_
  unfold DS.ccode DS.crashed
  rintro e w' (⟨hk, rfl, hd⟩ | ⟨hk, rfl, hd⟩)
  · rw [if_pos hk, if_pos hk]; exact ⟨rfl, hd⟩
  · rw [if_neg hk, if_neg hk]; exact ⟨rfl, hd⟩
set_option maxRecDepth 100000 in
set_option maxHeartbeats 2000000 in
theorem step_crash (w : World) (col : Nat → Nat) (c d b b2 : Nat) (s : DS) (o : OpD) (a : Option Addr) (cap : Nat) (hd : DiskAt w 69 col c b s) (hx : RefAt w col d b2 s) (ok : s.Ok) (hnm : Norm w col) (hc : 1 < c) (hd1 : 1 < d) (hcd : d + 2 < c ∨ c + 2 < d) (hp : s.pending.length ≤ 1073741824) (hv : RdAt w (Nil0 col) 1 (.slice a o.keep.length cap) o.keep.length (o.keep.map (Value.int .i64))) (hk : o.kind = 5) : Calls Try.prog 30 #[.pointer (some ⟨b, 0, none⟩), .pointer (some ⟨b2, 0, none⟩), opv o a cap] w fun e w' => e = .returned (.bool true) ∧ Both c d col b b2 (s.crashed o.keep) w w' := by
  have q1 : (o.kind == 1) = false := by simp [hk]
  have q2 : (o.kind == 2) = false := by simp [hk]
  have q3 : (o.kind == 3) = false := by simp [hk]
  have q4 : (o.kind == 4) = false := by simp [hk]
  have q5 : (o.kind == 5) = true := by simp [hk]
  clear hk
  have kB : Below w.heap.size w (w.alloc (.cells #[.int .i64 o.kind, .int .i64 o.n, .int .u8 o.byte, .int .i64 o.more, .slice a o.keep.length cap] 32)) := (Below.refl _ _).alloc (Nat.le_refl _) _
  have hd2 := hd.below kB
  have hx2 := hx.below kB
  have hn2 := hnm.grow kB.size
  have st0 : Step c col col w _ := Step.below hnm kB
  have hv2 := hv.below kB
  have cK : ∀ (w3 : World), Chg (inC col c) (w.alloc (.cells #[.int .i64 o.kind, .int .i64 o.n, .int .u8 o.byte, .int .i64 o.more, .slice a o.keep.length cap] 32)) w3 → w3.cell? ⟨w.heap.size, 4, none⟩ = some (.slice a o.keep.length cap) := fun w3 k => (k.cell (p := ⟨w.heap.size, 4, none⟩) (by simp) (by have := hnm w.heap.size (Nat.le_refl _); unfold inC; simp only; omega)).trans (by rw [cell_of_block (block_new _ _)]; rfl)
  unfold opv
  go_enter Try.func30, Try.ntmps30
  go_wp2_with fail
  have cD := cK _ (Chg.refl _ _)
  have cD' : ((w.alloc (.cells #[.int .i64 o.kind, .int .i64 o.n, .int .u8 o.byte, .int .i64 o.more, .slice a o.keep.length cap] 32)).drew).cell? ⟨w.heap.size, 4, none⟩ = some (.slice a o.keep.length cap) := cD
  have hcc : (s.ccode o.keep == s.ccode o.keep) = true := by simp
  have hd2' := hd2.below (Below.refl _ _).drew
  have hx2' := hx2.below (Below.refl _ _).drew
  have hv2' := hv2.below (Below.refl _ _).drew
  have hn2' : Norm ((w.alloc (.cells #[.int .i64 o.kind, .int .i64 o.n, .int .u8 o.byte, .int .i64 o.more, .slice a o.keep.length cap] 32)).drew) col := hn2
  have st0' : Step c col col w _ := st0.trans (Step.below hn2 (Below.refl _ _).drew)
  go_region_held3 (fun w' => w'.cell? ⟨w.heap.size, 4, none⟩ = some (.slice a o.keep.length cap)) (first | exact cD' | assumption | exact c3' | exact c4') (first | (go_at_call 16; refine (crash_lawC _ _ _ _ _ _ o.keep hd2' hc ok hn2' hp hv2').mono ?_; rintro e w3 ⟨rfl, col3, hd3, st3⟩; (have c3' := cK w3 ((Chg.refl (inC col c) _).drew.trans st3.chg))) | (go_at_call 47; refine (refcrash_lawC (st3.refAt hc hcd hx2') ok st3.norm hd1 hp _ o.keep (st3.rd hc hv2')).mono ?_; rintro e w4 ⟨rfl, col4, hx4, st4⟩; (have c4' : w4.cell? ⟨w.heap.size, 4, none⟩ = some (.slice a o.keep.length cap) := (st4.chg.cell (p := ⟨w.heap.size, 4, none⟩) (cell_lt c3') (by have := st3.ext w.heap.size (by simp); have := hnm w.heap.size (Nat.le_refl _); unfold inC; simp only; omega)).trans c3')))
  all_goals go_wp2
  all_goals go_ret
  all_goals exact ⟨rfl, col3, w3, col4, st0'.trans st3, st4, st4.other hd1 (by omega) hd3, hx4⟩
set_option maxRecDepth 100000 in
set_option maxHeartbeats 2000000 in
theorem step_image (w : World) (col : Nat → Nat) (c d b b2 : Nat) (s : DS) (o : OpD) (a : Option Addr) (cap : Nat) (hd : DiskAt w 69 col c b s) (hx : RefAt w col d b2 s) (ok : s.Ok) (hnm : Norm w col) (hc : 1 < c) (hd1 : 1 < d) (hcd : d + 2 < c ∨ c + 2 < d) (hp : s.pending.length ≤ 1073741824) (hk : o.kind = 6) : Calls Try.prog 30 #[.pointer (some ⟨b, 0, none⟩), .pointer (some ⟨b2, 0, none⟩), opv o a cap] w fun e w' => e = .returned (.bool true) ∧ Both c d col b b2 s w w' := by
  have q1 : (o.kind == 1) = false := by simp [hk]
  have q2 : (o.kind == 2) = false := by simp [hk]
  have q3 : (o.kind == 3) = false := by simp [hk]
  have q4 : (o.kind == 4) = false := by simp [hk]
  have q5 : (o.kind == 5) = false := by simp [hk]
  have q6 : (o.kind == 6) = true := by simp [hk]
  clear hk
  have kB : Below w.heap.size w (w.alloc (.cells #[.int .i64 o.kind, .int .i64 o.n, .int .u8 o.byte, .int .i64 o.more, .slice a o.keep.length cap] 32)) := (Below.refl _ _).alloc (Nat.le_refl _) _
  have hd2 := hd.below kB
  have hx2 := hx.below kB
  have hn2 : Norm (w.alloc (.cells #[.int .i64 o.kind, .int .i64 o.n, .int .u8 o.byte, .int .i64 o.more, .slice a o.keep.length cap] 32)) col := hnm.grow kB.size
  have st0 : Step c col col w _ := Step.below hnm kB
  generalize hW : w.alloc (.cells #[.int .i64 o.kind, .int .i64 o.n, .int .u8 o.byte, .int .i64 o.more, .slice a o.keep.length cap] 32) = W2 at *
  have HW := Lib.hid hW
  clear hW
  obtain ⟨t, ⟨pa, pcap, qa, qn, qcap, qs, hti⟩, het⟩ := id hx2
  have htp : t.platter = s.platter := by rw [← het]; rfl
  have htd := hti.below (Below.refl _ _).drew
  have hdd := hd2.below (Below.refl _ _).drew
  have hnd : Norm W2.drew col := hn2
  have c62 : W2.drew.cell? ⟨b2, 2, none⟩ = some (.slice pa t.platter.length pcap) := htd.platter
  have hse : Hid ((s.platter == t.platter) = true) := by show _ = _; rw [htp]; simp
  have Htp := Lib.hid htp
  clear htp het
  unfold opv
  go_enter Try.func30, Try.ntmps30
  go_wp2_with fail
  rw [HW.out]
  go_region_held3 (fun w' => w'.cell? ⟨b2, 2, none⟩ = some (.slice pa t.platter.length pcap)) (first | exact c62 | assumption | exact c3' | exact c4') (first | (go_at_call 20; refine (image_law _ _ _ _ _ hdd ok hnd).mono ?_; rintro e w3 ⟨⟨a3, cap3, rfl, r3⟩, k3⟩; (have c3' := (htd.below k3).platter)) | (go_at_call 19; refine (sameBytes_any _ _ _ _ _ s.platter t.platter r3.rd (htd.below k3).plat.rd).mono ?_; rw [hse.out]; rintro e w4 ⟨rfl, k4⟩; (have c4' := ((htd.below k3).below k4).platter)))
  all_goals go_wp2
  all_goals go_ret
  all_goals
    have kk := below_grow (below_grow (Below.refl W2.heap.size W2).drew (by simp) k3) (Nat.le_refl _) k4
    exact ⟨rfl, col, w4, col, st0.trans (Step.below hn2 kk), Step.below (hn2.grow kk.size) (Below.refl _ _), hd2.below kk, hx2.below kk⟩
theorem counts_law (w : World) (col : Nat → Nat) (c b : Nat) (s : DS) (h : DiskAt w 69 col c b s) (ok : s.Ok) : Calls Try.prog 33 #[.pointer (some ⟨b, 0, none⟩)] w fun e w' => e = .returned (.tuple #[.int .i64 s.reads, .int .i64 s.writes, .int .i64 s.flushes]) ∧ Below w.heap.size w w' := by
  obtain ⟨pa, pcap, qa, qn, qcap, qs, h⟩ := h
  exact counts_any h (by have := ok.size0; omega)
set_option maxRecDepth 100000 in
set_option maxHeartbeats 2000000 in
theorem step_else (w : World) (col : Nat → Nat) (c d b b2 : Nat) (s : DS) (o : OpD) (a : Option Addr) (cap : Nat) (hd : DiskAt w 69 col c b s) (hx : RefAt w col d b2 s) (ok : s.Ok) (hnm : Norm w col) (hc : 1 < c) (hd1 : 1 < d) (hcd : d + 2 < c ∨ c + 2 < d) (hp : s.pending.length ≤ 1073741824) (hk : o.kind ≠ 1 ∧ o.kind ≠ 2 ∧ o.kind ≠ 3 ∧ o.kind ≠ 4 ∧ o.kind ≠ 5 ∧ o.kind ≠ 6 ∧ o.kind ≠ 9 ∧ o.kind ≠ 10) : Calls Try.prog 30 #[.pointer (some ⟨b, 0, none⟩), .pointer (some ⟨b2, 0, none⟩), opv o a cap] w fun e w' => e = .returned (.bool true) ∧ Both c d col b b2 s w w' := by
  have q1 : (o.kind == 1) = false := by simp [hk]
  have q2 : (o.kind == 2) = false := by simp [hk]
  have q3 : (o.kind == 3) = false := by simp [hk]
  have q4 : (o.kind == 4) = false := by simp [hk]
  have q5 : (o.kind == 5) = false := by simp [hk]
  have q6 : (o.kind == 6) = false := by simp [hk]
  have q9 : (o.kind == 9) = false := by simp [hk]
  have q10 : (o.kind == 10) = false := by simp [hk]
  clear hk
  have kB : Below w.heap.size w (w.alloc (.cells #[.int .i64 o.kind, .int .i64 o.n, .int .u8 o.byte, .int .i64 o.more, .slice a o.keep.length cap] 32)) := (Below.refl _ _).alloc (Nat.le_refl _) _
  have hd2 := hd.below kB
  have hx2 := hx.below kB
  have hn2 : Norm (w.alloc (.cells #[.int .i64 o.kind, .int .i64 o.n, .int .u8 o.byte, .int .i64 o.more, .slice a o.keep.length cap] 32)) col := hnm.grow kB.size
  have st0 : Step c col col w _ := Step.below hnm kB
  unfold opv
  go_enter Try.func30, Try.ntmps30
  go_wp2_with fail
  refine (counts_law _ _ _ _ _ hd2 ok).mono ?_
  rintro e w3 ⟨rfl, k3⟩
  have hd3 := hd2.below k3
  have hx3 := hx2.below k3
  have hn3 := hn2.grow k3.size
  obtain ⟨t, ⟨pa, pcap, qa, qn, qcap, qs, hti⟩, het⟩ := id hx3
  have e1 : t.reads = s.reads := by rw [← het]; rfl
  have e2 : t.writes = s.writes := by rw [← het]; rfl
  have e3 : t.flushes = s.flushes := by rw [← het]; rfl
  have c4 := hti.reads
  have c5 := hti.writes
  have c6 := hti.flushes
  rw [e1] at c4
  rw [e2] at c5
  rw [e3] at c6
  clear e1 e2 e3 het
  have z1 : (s.reads == s.reads) = true := by simp
  have z2 : (s.writes == s.writes) = true := by simp
  have z3 : (s.flushes == s.flushes) = true := by simp
  go_wp2_with fail
  go_ret
  exact ⟨by simp, col, w3, col, st0.trans (Step.below hn2 k3), Step.below hn3 (Below.refl _ _), hd3, hx3⟩
end Go.Proofs.Ytlkebppmdbgdmaa
