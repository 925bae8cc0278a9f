/-
  The law's 'does': a call of both; 'same'.
-/
import Derived.Test.YtbkblfhhhhkeaaaLawH
namespace Go.Proofs.Ytbkblfhhhhkeaaa
open Go.RowKit
set_option linter.unusedSimpArgs false
set_option linter.unusedVariables false

structure OpH where
  kind : Int
  n : Int
  flags : Int
instance : Inhabited OpH := ⟨⟨0, 0, 0⟩⟩
def opv (o : OpH) : Value := .agg #[.int .i64 o.kind, .int .i64 o.n, .int .i64 o.flags]
noncomputable def doesS (l : List (Int × Int)) (o : OpH) : List (Int × Int) :=
  if o.kind = 0 then opS l o.n o.flags else if o.kind = 1 then clS l o.n else if o.kind = 6 then noTab else l

theorem Pair.both {w w3 w4 : World} {bad : List Nat} {b r : Nat} {l l' : List (Int × Int)} (h : Pair w bad b r l) (k3 : Chg (· = b) w w3) (t3 : TabAt w3 b l') (ok' : TabOk l') (d4 : RDid w3 r (Off bad) (opens l') w4) : ODid bad b r l' w w4 := by
  obtain ⟨r4, k4⟩ := d4
  exact ⟨⟨⟨t3.len, k4.keeps t3.block h.ne⟩, ok', r4, h.hb, h.hr, h.ne, fun i hi => Nat.lt_of_lt_of_le (Nat.lt_of_lt_of_le (h.low i hi) k3.size) k4.size⟩, (k3.mono (fun _ _ e => Or.inl e)).trans (k4.mono (fun _ _ e => Or.inr e))⟩
theorem Pair.same {w w' : World} {bad : List Nat} {b r : Nat} {l : List (Int × Int)} (h : Pair w bad b r l) (k : Below w.heap.size w w') : ODid bad b r l w w' := ⟨h.below k, Chg.of_below k⟩
theorem ODid.pre {w w1 w2 : World} {bad : List Nat} {b r : Nat} {l : List (Int × Int)} (k : Below w.heap.size w w1) (d : ODid bad b r l w1 w2) : ODid bad b r l w w2 := ⟨d.1, (Chg.of_below k).trans d.2⟩
theorem rd_of_owns {w : World} {base : Nat} {e : TypeId} {size n : Nat} {a : Option Addr} {cap : Nat} {xs : List Value} (h : w.ownsRow base e size (.slice a n cap) n xs) : RdAt w (fun j => base ≤ j) size (.slice a n cap) n xs := by
  have hs := fun hn => ownsRow_some h hn
  obtain ⟨h1, h2⟩ := h
  rcases h2 with ⟨h2, h3⟩ | ⟨g, cap', cur, hv, hg, hh, r1, r2, r3, r4⟩
  · injection h2 with e1 e2 e3
    subst e1 e2 e3
    exact ⟨h1, _, _, rfl, Nat.le_refl _, by unfold maxLen; omega, fun hn => by omega⟩
  · injection hv with e1 e2 e3
    subst e1 e3
    refine ⟨h1, _, _, rfl, r1, r2, fun hn => ?_⟩
    obtain ⟨g', e, q1, q2, q3⟩ := hs hn
    exact ⟨g', 0, e, q1, q2, fun j u hj => by rw [Nat.zero_add]; exact q3 j u hj⟩
theorem all_rd (w : World) (b : Nat) (l : List (Int × Int)) (h : TabAt w b l) :
    Calls Try.prog 16 #[.pointer (some ⟨b, 0, none⟩)] w fun e w' => (∃ a cap, e = .returned (.slice a (opens l).length cap) ∧ w'.ownsRow w.heap.size 50 3 (.slice a (opens l).length cap) (opens l).length (hcells (opens l))) ∧ Below w.heap.size w w' := by
  refine (all_any w b l h).mono ?_
  rintro e w' ⟨⟨a, cap, rfl, h⟩, k⟩
  exact ⟨⟨a, cap, rfl, h⟩, k⟩

set_option maxRecDepth 100000 in
set_option maxHeartbeats 2000000 in
theorem does_open (w : World) (bad : List Nat) (b r : Nat) (l : List (Int × Int)) (o : OpH) (h : Pair w bad b r l) (hn : o.n ≤ 9223372036854775807) (hk : o.kind = 0) :
    Calls Try.prog 12 #[.pointer (some ⟨b, 0, none⟩), .pointer (some ⟨r, 0, none⟩), opv o] w fun e w' => e = .returned (.bool true) ∧ ODid bad b r (opS l o.n o.flags) w w' := by
  have q0 : (o.kind == 0) = true := by simp [hk]
  clear hk
  have kB : Below w.heap.size w (w.alloc (.cells #[.int .i64 o.kind, .int .i64 o.n, .int .i64 o.flags] 38)) := (Below.refl _ _).alloc (Nat.le_refl _) _
  have h2 := h.below kB
  have x1 : (w.alloc (.cells #[.int .i64 o.kind, .int .i64 o.n, .int .i64 o.flags] 38)).cell? ⟨w.heap.size, 1, none⟩ = some (.int .i64 o.n) := by rw [cell_of_block (block_new _ _)]; rfl
  have x2 : (w.alloc (.cells #[.int .i64 o.kind, .int .i64 o.n, .int .i64 o.flags] 38)).cell? ⟨w.heap.size, 2, none⟩ = some (.int .i64 o.flags) := by rw [cell_of_block (block_new _ _)]; rfl
  have sB : w.heap.size < (w.alloc (.cells #[.int .i64 o.kind, .int .i64 o.n, .int .i64 o.flags] 38)).heap.size := by simp
  have nb : w.heap.size ≠ b := by have := h.low b h.hb; omega
  have nr : w.heap.size ≠ r := by have := h.low r h.hr; omega
  generalize hW : w.alloc (.cells #[.int .i64 o.kind, .int .i64 o.n, .int .i64 o.flags] 38) = W2 at *
  have HW := Lib.hid hW
  clear hW
  unfold opv
  go_enter Try.func12, Try.ntmps12
  go_wp2_with fail
  rw [HW.out]
  refine (hopen_any W2 b l o.n o.flags h2.tab).mono ?_
  rintro e w3 ⟨rfl, t3, k3⟩
  obtain ⟨_, r3, low3⟩ := h2.tabbed k3 t3
  have y1 := (k3.cell (p := ⟨w.heap.size, 1, none⟩) sB nb).trans x1
  have y2 := (k3.cell (p := ⟨w.heap.size, 2, none⟩) sB nb).trans x2
  have c1 : ((ocode l o.n).1 == (ocode l o.n).1) = true := by simp
  have c2 : ((ocode l o.n).2 == (ocode l o.n).2) = true := by simp
  go_wp2_with fail
  refine (ropen_any (b := b) h2.tab.len h2.ok r3 h2.hr low3 o.n o.flags).mono ?_
  rintro e w4 ⟨rfl, d4⟩
  go_wp2_with fail
  go_ret
  exact ⟨by simp, (h2.both k3 t3 (opS_ok h2.ok hn _) d4).pre kB⟩

set_option maxRecDepth 100000 in
set_option maxHeartbeats 2000000 in
theorem does_close (w : World) (bad : List Nat) (b r : Nat) (l : List (Int × Int)) (o : OpH) (h : Pair w bad b r l) (hn : o.n ≤ 9223372036854775807) (hk : o.kind = 1) :
    Calls Try.prog 12 #[.pointer (some ⟨b, 0, none⟩), .pointer (some ⟨r, 0, none⟩), opv o] w fun e w' => e = .returned (.bool true) ∧ ODid bad b r (clS l o.n) w w' := by
  have q0 : (o.kind == 0) = false := by simp [hk]
  have q1 : (o.kind == 1) = true := by simp [hk]
  clear hk
  have kB : Below w.heap.size w (w.alloc (.cells #[.int .i64 o.kind, .int .i64 o.n, .int .i64 o.flags] 38)) := (Below.refl _ _).alloc (Nat.le_refl _) _
  have h2 := h.below kB
  have x1 : (w.alloc (.cells #[.int .i64 o.kind, .int .i64 o.n, .int .i64 o.flags] 38)).cell? ⟨w.heap.size, 1, none⟩ = some (.int .i64 o.n) := by rw [cell_of_block (block_new _ _)]; rfl
  have x2 : (w.alloc (.cells #[.int .i64 o.kind, .int .i64 o.n, .int .i64 o.flags] 38)).cell? ⟨w.heap.size, 2, none⟩ = some (.int .i64 o.flags) := by rw [cell_of_block (block_new _ _)]; rfl
  have sB : w.heap.size < (w.alloc (.cells #[.int .i64 o.kind, .int .i64 o.n, .int .i64 o.flags] 38)).heap.size := by simp
  have nb : w.heap.size ≠ b := by have := h.low b h.hb; omega
  have nr : w.heap.size ≠ r := by have := h.low r h.hr; omega
  generalize hW : w.alloc (.cells #[.int .i64 o.kind, .int .i64 o.n, .int .i64 o.flags] 38) = W2 at *
  have HW := Lib.hid hW
  clear hW
  unfold opv
  go_enter Try.func12, Try.ntmps12
  go_wp2_with fail
  rw [HW.out]
  refine (hclose_any W2 b l o.n h2.tab).mono ?_
  rintro e w3 ⟨rfl, t3, k3⟩
  obtain ⟨_, r3, low3⟩ := h2.tabbed k3 t3
  have y1 := (k3.cell (p := ⟨w.heap.size, 1, none⟩) sB nb).trans x1
  go_wp2_with fail
  refine (rclose_any h2.tab.len r3 h2.hr low3 o.n).mono ?_
  rintro e w4 ⟨rfl, d4⟩
  go_wp2_with fail
  go_ret
  exact ⟨by simp, (h2.both k3 t3 (clS_ok h2.ok _) d4).pre kB⟩

set_option maxRecDepth 100000 in
set_option maxHeartbeats 2000000 in
theorem does_get (w : World) (bad : List Nat) (b r : Nat) (l : List (Int × Int)) (o : OpH) (h : Pair w bad b r l) (hn : o.n ≤ 9223372036854775807) (hk : o.kind = 2) :
    Calls Try.prog 12 #[.pointer (some ⟨b, 0, none⟩), .pointer (some ⟨r, 0, none⟩), opv o] w fun e w' => e = .returned (.bool true) ∧ ODid bad b r (l) w w' := by
  have q0 : (o.kind == 0) = false := by simp [hk]
  have q1 : (o.kind == 1) = false := by simp [hk]
  have q2 : (o.kind == 2) = true := by simp [hk]
  clear hk
  have kB : Below w.heap.size w (w.alloc (.cells #[.int .i64 o.kind, .int .i64 o.n, .int .i64 o.flags] 38)) := (Below.refl _ _).alloc (Nat.le_refl _) _
  have h2 := h.below kB
  have x1 : (w.alloc (.cells #[.int .i64 o.kind, .int .i64 o.n, .int .i64 o.flags] 38)).cell? ⟨w.heap.size, 1, none⟩ = some (.int .i64 o.n) := by rw [cell_of_block (block_new _ _)]; rfl
  have x2 : (w.alloc (.cells #[.int .i64 o.kind, .int .i64 o.n, .int .i64 o.flags] 38)).cell? ⟨w.heap.size, 2, none⟩ = some (.int .i64 o.flags) := by rw [cell_of_block (block_new _ _)]; rfl
  have sB : w.heap.size < (w.alloc (.cells #[.int .i64 o.kind, .int .i64 o.n, .int .i64 o.flags] 38)).heap.size := by simp
  have nb : w.heap.size ≠ b := by have := h.low b h.hb; omega
  have nr : w.heap.size ≠ r := by have := h.low r h.hr; omega
  generalize hW : w.alloc (.cells #[.int .i64 o.kind, .int .i64 o.n, .int .i64 o.flags] 38) = W2 at *
  have HW := Lib.hid hW
  clear hW
  unfold opv
  go_enter Try.func12, Try.ntmps12
  go_wp2_with fail
  rw [HW.out]
  refine (hget_any W2 b l o.n h2.tab).mono ?_
  rintro e w3 ⟨rfl, k3⟩
  have y1 := (k3.cell (p := ⟨w.heap.size, 1, none⟩) sB).trans x1
  have kA : Below W2.heap.size W2 (w3.alloc (.cells #[.int .i64 (gcode l o.n).1.1, .int .i64 (gcode l o.n).1.2.1, .int .i64 (gcode l o.n).1.2.2] 50)) := k3.alloc k3.size _
  have h3 := h2.below kA
  have y1a := (kA.cell (p := ⟨w.heap.size, 1, none⟩) sB).trans x1
  have bA := block_new w3 (.cells #[.int .i64 (gcode l o.n).1.1, .int .i64 (gcode l o.n).1.2.1, .int .i64 (gcode l o.n).1.2.2] 50)
  go_wp2_with fail
  refine (rget_any h3.tab.len h3.ref o.n).mono ?_
  rintro e w4 ⟨rfl, k4⟩
  have bl := below_keeps k4 bA (by simp)
  have z0 := (cell_of_block bl 0).trans rfl
  have z1 := (cell_of_block bl 1).trans rfl
  have z2 := (cell_of_block bl 2).trans rfl
  have zl : w3.heap.size < w4.heap.size := by have := k4.size; simp at this; omega
  have h4 := h3.below k4
  go_wp2_with fail
  go_ret
  have kf := kB.trans ((kA.trans (k4.mono kA.size)).mono kB.size)
  exact ⟨by simp, h.same (kf.alloc kf.size _)⟩

set_option maxRecDepth 100000 in
set_option maxHeartbeats 2000000 in
theorem does_count (w : World) (bad : List Nat) (b r : Nat) (l : List (Int × Int)) (o : OpH) (h : Pair w bad b r l) (hn : o.n ≤ 9223372036854775807) (hk : o.kind = 3) :
    Calls Try.prog 12 #[.pointer (some ⟨b, 0, none⟩), .pointer (some ⟨r, 0, none⟩), opv o] w fun e w' => e = .returned (.bool true) ∧ ODid bad b r (l) w w' := by
  have q0 : (o.kind == 0) = false := by simp [hk]
  have q1 : (o.kind == 1) = false := by simp [hk]
  have q2 : (o.kind == 2) = false := by simp [hk]
  have q3 : (o.kind == 3) = true := by simp [hk]
  clear hk
  have kB : Below w.heap.size w (w.alloc (.cells #[.int .i64 o.kind, .int .i64 o.n, .int .i64 o.flags] 38)) := (Below.refl _ _).alloc (Nat.le_refl _) _
  have h2 := h.below kB
  have x1 : (w.alloc (.cells #[.int .i64 o.kind, .int .i64 o.n, .int .i64 o.flags] 38)).cell? ⟨w.heap.size, 1, none⟩ = some (.int .i64 o.n) := by rw [cell_of_block (block_new _ _)]; rfl
  have x2 : (w.alloc (.cells #[.int .i64 o.kind, .int .i64 o.n, .int .i64 o.flags] 38)).cell? ⟨w.heap.size, 2, none⟩ = some (.int .i64 o.flags) := by rw [cell_of_block (block_new _ _)]; rfl
  have sB : w.heap.size < (w.alloc (.cells #[.int .i64 o.kind, .int .i64 o.n, .int .i64 o.flags] 38)).heap.size := by simp
  have nb : w.heap.size ≠ b := by have := h.low b h.hb; omega
  have nr : w.heap.size ≠ r := by have := h.low r h.hr; omega
  generalize hW : w.alloc (.cells #[.int .i64 o.kind, .int .i64 o.n, .int .i64 o.flags] 38) = W2 at *
  have HW := Lib.hid hW
  clear hW
  unfold opv
  go_enter Try.func12, Try.ntmps12
  go_wp2_with fail
  rw [HW.out]
  have x1D : W2.drew.cell? ⟨w.heap.size, 1, none⟩ = some (.int .i64 o.n) := x1
  have sBD : w.heap.size < W2.drew.heap.size := sB
  have hD := h2.below (Below.refl _ _).drew
  obtain ⟨ra, rcap, hrD⟩ := hD.ref
  have c1 : (countOf l o.n == cntAll (opens l) o.n) = true := by simp [countOf, cntAll]
  go_region_held3 (fun w' => w'.cell? ⟨w.heap.size, 1, none⟩ = some (.int .i64 o.n)) (first | exact x1D | exact y3 | exact y4) (first | (go_at_call 10; refine (count_any W2.drew b l o.n hD.tab).mono ?_; rintro e w3 ⟨rfl, k3⟩; (have y3 : w3.cell? ⟨w.heap.size, 1, none⟩ = some (.int .i64 o.n) := (k3.cell (p := ⟨w.heap.size, 1, none⟩) sBD).trans x1D)) | (go_at_call 25; refine (rcount_any w3 r _ _ _ _ o.n (hrD.below k3)).mono ?_; rintro e w4 ⟨rfl, k4⟩; (have y4 : w4.cell? ⟨w.heap.size, 1, none⟩ = some (.int .i64 o.n) := (k4.cell (p := ⟨w.heap.size, 1, none⟩) (Nat.lt_of_lt_of_le sBD k3.size)).trans y3)))
  all_goals go_wp2
  all_goals go_ret
  all_goals exact ⟨by simp, h.same (kB.trans (((Below.refl W2.heap.size W2).drew.trans (k3.trans (k4.mono k3.size))).mono kB.size))⟩

set_option maxRecDepth 100000 in
set_option maxHeartbeats 2000000 in
theorem does_all (w : World) (bad : List Nat) (b r : Nat) (l : List (Int × Int)) (o : OpH) (h : Pair w bad b r l) (hn : o.n ≤ 9223372036854775807) (hk : o.kind = 4) :
    Calls Try.prog 12 #[.pointer (some ⟨b, 0, none⟩), .pointer (some ⟨r, 0, none⟩), opv o] w fun e w' => e = .returned (.bool true) ∧ ODid bad b r (l) w w' := by
  have q0 : (o.kind == 0) = false := by simp [hk]
  have q1 : (o.kind == 1) = false := by simp [hk]
  have q2 : (o.kind == 2) = false := by simp [hk]
  have q3 : (o.kind == 3) = false := by simp [hk]
  have q4 : (o.kind == 4) = true := by simp [hk]
  clear hk
  have kB : Below w.heap.size w (w.alloc (.cells #[.int .i64 o.kind, .int .i64 o.n, .int .i64 o.flags] 38)) := (Below.refl _ _).alloc (Nat.le_refl _) _
  have h2 := h.below kB
  have x1 : (w.alloc (.cells #[.int .i64 o.kind, .int .i64 o.n, .int .i64 o.flags] 38)).cell? ⟨w.heap.size, 1, none⟩ = some (.int .i64 o.n) := by rw [cell_of_block (block_new _ _)]; rfl
  have x2 : (w.alloc (.cells #[.int .i64 o.kind, .int .i64 o.n, .int .i64 o.flags] 38)).cell? ⟨w.heap.size, 2, none⟩ = some (.int .i64 o.flags) := by rw [cell_of_block (block_new _ _)]; rfl
  have sB : w.heap.size < (w.alloc (.cells #[.int .i64 o.kind, .int .i64 o.n, .int .i64 o.flags] 38)).heap.size := by simp
  have nb : w.heap.size ≠ b := by have := h.low b h.hb; omega
  have nr : w.heap.size ≠ r := by have := h.low r h.hr; omega
  generalize hW : w.alloc (.cells #[.int .i64 o.kind, .int .i64 o.n, .int .i64 o.flags] 38) = W2 at *
  have HW := Lib.hid hW
  clear hW
  unfold opv
  go_enter Try.func12, Try.ntmps12
  go_wp2_with fail
  rw [HW.out]
  refine (all_rd W2 b l h2.tab).mono ?_
  rintro e w3 ⟨⟨a3, cap3, rfl, ow3⟩, k3⟩
  have h3 := h2.below k3
  obtain ⟨ra, rcap, hr3⟩ := h3.ref
  have c0 := hr3.list
  have l64 := opens_len l
  go_wp2_with fail
  refine (same_handles _ _ _ _ _ (opens l) l64 (rd_of_owns ow3) hr3.rd).mono ?_
  rintro e w4 ⟨rfl, k4⟩
  have k24 : Below W2.heap.size W2 w4 := k3.trans (k4.mono k3.size)
  have hblk : 0 < (opens l).length → ∃ g cur, a3 = some ⟨g, 0, none⟩ ∧ W2.heap.size ≤ g ∧ w4.heap[g]? = some (.cells cur 50 (0, 0)) ∧ (opens l).length * 3 ≤ cur.size := fun hp => by
    rcases ow3.2 with ⟨e, _⟩ | ⟨g, cap, cur, e, hg, hh, q1, q2, q3, q4⟩
    · injection e with _ e _; omega
    · injection e with e1 _ _
      exact ⟨g, cur, e1, hg, below_keeps k4 hh (lt_of_block hh), by rw [q3]; exact Nat.mul_le_mul_right 3 q1⟩
  have HB := Lib.hid hblk
  clear hblk ow3 hr3 c0
  generalize hL : (opens l).length = N at *
  have HL := Lib.hid hL
  clear hL
  go_wp2_with fail
  go_loopw [133] (fun i wr => ∃ k : Nat, k ≤ N ∧ i = .int .i64 k ∧ Below W2.heap.size W2 wr ∧ Hid (0 < N → ∃ g cur, a3 = some ⟨g, 0, none⟩ ∧ W2.heap.size ≤ g ∧ wr.heap[g]? = some (.cells cur 50 (0, 0)) ∧ N * 3 ≤ cur.size)) (fun i _ => N - (intOf i).toNat)
  case atStart => exact ⟨0, by omega, rfl, k24, HB⟩
  case round =>
    obtain ⟨k, hk, rfl, hbw, hB⟩ := hrel
    by_cases hlt : k < N
    · obtain ⟨g, cur, rfl, hg, hh, hc⟩ := hB.out (by omega)
      have i0 : (0 : Int) ≤ (k : Int) := by omega
      have i1 : (k : Int) < (N : Int) := by omega
      have z1 : wr.cell? ⟨g, k * 3 + 1, none⟩ = some (cur[k * 3 + 1]'(by omega)) := by rw [cell_of_block hh]; simp
      have f1 := free_of_block hh (k * 3 + 1)
      generalize cur[k * 3 + 1]'(by omega) = z at *
      have hst := block_set hh (k * 3 + 1) (.int .i64 (-1))
      go_wp2
      go_roundw
      case rel => exact ⟨k + 1, by omega, by go_num, hbw.setCell hg _, fun _ => ⟨g, _, rfl, hg, hst, by simpa using hc⟩⟩
      case measure => simp [intOf]; omega
    · go_wp2
      go_ret
      exact ⟨rfl, h.same (kB.trans (hbw.mono kB.size))⟩

set_option maxRecDepth 100000 in
set_option maxHeartbeats 2000000 in
theorem does_inodes (w : World) (bad : List Nat) (b r : Nat) (l : List (Int × Int)) (o : OpH) (h : Pair w bad b r l) (hn : o.n ≤ 9223372036854775807) (hk : o.kind = 5) :
    Calls Try.prog 12 #[.pointer (some ⟨b, 0, none⟩), .pointer (some ⟨r, 0, none⟩), opv o] w fun e w' => e = .returned (.bool true) ∧ ODid bad b r (l) w w' := by
  have q0 : (o.kind == 0) = false := by simp [hk]
  have q1 : (o.kind == 1) = false := by simp [hk]
  have q2 : (o.kind == 2) = false := by simp [hk]
  have q3 : (o.kind == 3) = false := by simp [hk]
  have q4 : (o.kind == 4) = false := by simp [hk]
  have q5 : (o.kind == 5) = true := by simp [hk]
  clear hk
  have kB : Below w.heap.size w (w.alloc (.cells #[.int .i64 o.kind, .int .i64 o.n, .int .i64 o.flags] 38)) := (Below.refl _ _).alloc (Nat.le_refl _) _
  have h2 := h.below kB
  have x1 : (w.alloc (.cells #[.int .i64 o.kind, .int .i64 o.n, .int .i64 o.flags] 38)).cell? ⟨w.heap.size, 1, none⟩ = some (.int .i64 o.n) := by rw [cell_of_block (block_new _ _)]; rfl
  have x2 : (w.alloc (.cells #[.int .i64 o.kind, .int .i64 o.n, .int .i64 o.flags] 38)).cell? ⟨w.heap.size, 2, none⟩ = some (.int .i64 o.flags) := by rw [cell_of_block (block_new _ _)]; rfl
  have sB : w.heap.size < (w.alloc (.cells #[.int .i64 o.kind, .int .i64 o.n, .int .i64 o.flags] 38)).heap.size := by simp
  have nb : w.heap.size ≠ b := by have := h.low b h.hb; omega
  have nr : w.heap.size ≠ r := by have := h.low r h.hr; omega
  generalize hW : w.alloc (.cells #[.int .i64 o.kind, .int .i64 o.n, .int .i64 o.flags] 38) = W2 at *
  have HW := Lib.hid hW
  clear hW
  unfold opv
  go_enter Try.func12, Try.ntmps12
  go_wp2_with fail
  rw [HW.out]
  refine (hinodes_any W2 b l h2.tab h2.ok).mono ?_
  rintro e w3 ⟨⟨a3, c3, rfl, r3⟩, k3⟩
  have h3 := h2.below k3
  obtain ⟨ra, rcap, hr3⟩ := h3.ref
  go_wp2_with fail
  refine (rinodes_any w3 r _ _ _ _ hr3).mono ?_
  rintro e w4 ⟨⟨a4, c4, rfl, r4⟩, k4⟩
  have r34 := RdAt.below r3 k4
  go_wp2_with fail
  refine (same_ints _ _ _ _ _ _ r34 r4).mono ?_
  rintro e w5 ⟨rfl, k5⟩
  go_wp2_with fail
  go_ret
  exact ⟨rfl, h.same (kB.trans ((k3.trans ((k4.trans (k5.mono k4.size)).mono k3.size)).mono kB.size))⟩

set_option maxRecDepth 100000 in
set_option maxHeartbeats 2000000 in
theorem does_clear (w : World) (bad : List Nat) (b r : Nat) (l : List (Int × Int)) (o : OpH) (h : Pair w bad b r l) (hn : o.n ≤ 9223372036854775807) (hk : o.kind = 6) :
    Calls Try.prog 12 #[.pointer (some ⟨b, 0, none⟩), .pointer (some ⟨r, 0, none⟩), opv o] w fun e w' => e = .returned (.bool true) ∧ ODid bad b r (noTab) w w' := by
  have q0 : (o.kind == 0) = false := by simp [hk]
  have q1 : (o.kind == 1) = false := by simp [hk]
  have q2 : (o.kind == 2) = false := by simp [hk]
  have q3 : (o.kind == 3) = false := by simp [hk]
  have q4 : (o.kind == 4) = false := by simp [hk]
  have q5 : (o.kind == 5) = false := by simp [hk]
  have q6 : (o.kind == 6) = true := by simp [hk]
  clear hk
  have kB : Below w.heap.size w (w.alloc (.cells #[.int .i64 o.kind, .int .i64 o.n, .int .i64 o.flags] 38)) := (Below.refl _ _).alloc (Nat.le_refl _) _
  have h2 := h.below kB
  have x1 : (w.alloc (.cells #[.int .i64 o.kind, .int .i64 o.n, .int .i64 o.flags] 38)).cell? ⟨w.heap.size, 1, none⟩ = some (.int .i64 o.n) := by rw [cell_of_block (block_new _ _)]; rfl
  have x2 : (w.alloc (.cells #[.int .i64 o.kind, .int .i64 o.n, .int .i64 o.flags] 38)).cell? ⟨w.heap.size, 2, none⟩ = some (.int .i64 o.flags) := by rw [cell_of_block (block_new _ _)]; rfl
  have sB : w.heap.size < (w.alloc (.cells #[.int .i64 o.kind, .int .i64 o.n, .int .i64 o.flags] 38)).heap.size := by simp
  have nb : w.heap.size ≠ b := by have := h.low b h.hb; omega
  have nr : w.heap.size ≠ r := by have := h.low r h.hr; omega
  generalize hW : w.alloc (.cells #[.int .i64 o.kind, .int .i64 o.n, .int .i64 o.flags] 38) = W2 at *
  have HW := Lib.hid hW
  clear hW
  unfold opv
  go_enter Try.func12, Try.ntmps12
  go_wp2_with fail
  rw [HW.out]
  obtain ⟨ra, rcap, hr2⟩ := h2.ref
  refine (rinodes_any W2 r _ _ _ _ hr2).mono ?_
  rintro e w3 ⟨⟨a3, c3, rfl, r3⟩, k3⟩
  have hr3 := hr2.below k3
  have c0 := hr3.list
  have f0 := hr3.free
  have h3 := h2.below k3
  have kc : Chg (· = r) w3 (w3.setCell ⟨r, 0, none⟩ (.slice none 0 0)) := (Chg.refl _ _).setCell _ _ (fun _ => rfl)
  have blr : (w3.setCell ⟨r, 0, none⟩ (.slice none 0 0)).heap[r]? = some (.cells #[.slice none 0 0] 36 (0, 0)) := by rw [block_set hr3.block]; rfl
  have t3 : TabAt (w3.setCell ⟨r, 0, none⟩ (.slice none 0 0)) b l := ⟨h3.tab.len, kc.keeps h3.tab.block h2.ne⟩
  have rk3 : IntsAt (w3.setCell ⟨r, 0, none⟩ (.slice none 0 0)) (fun j => W2.heap.size ≤ j) (.slice a3 (inosOf (opens l)).length c3) (inosOf (opens l)) := RdAt.keep r3 (fun k hk hp => kc.block k hk (by have := h2.low r h2.hr; omega)) (fun _ _ x => x) kc.size
  go_wp2_with fail
  refine (clear_any _ b l t3 h2.ok).mono ?_
  generalize w3.setCell ⟨r, 0, none⟩ (.slice none 0 0) = W3 at *
  rintro e w4 ⟨⟨a4, c4, rfl, r4⟩, t4, k4⟩
  have r34 : IntsAt w4 (fun j => W2.heap.size ≤ j) (.slice a3 (inosOf (opens l)).length c3) (inosOf (opens l)) := RdAt.keep rk3 (fun k hk hp => k4.block k hk (by have := h2.low b h2.hb; omega)) (fun _ _ x => x) k4.size
  have bl4 := k4.keeps blr (fun e => h2.ne e.symm)
  go_wp2_with fail
  refine (same_ints _ _ _ _ _ _ r4 r34).mono ?_
  rintro e w5 ⟨rfl, k5⟩
  go_wp2_with fail
  go_ret
  have hall : Chg (fun k => k = b ∨ k = r) w w5 := (Chg.of_below kB).trans ((Chg.of_below k3).trans (((kc.mono (fun _ _ e => Or.inr e)).trans (k4.mono (fun _ _ e => Or.inl e))).trans (Chg.of_below k5)))
  have hno : opens noTab = [] := by decide +kernel
  refine ⟨rfl, ⟨t4.below k5 t4.lt, noTab_ok, ?_, h.hb, h.hr, h.ne, fun i hi => Nat.lt_of_lt_of_le (h.low i hi) hall.size⟩, hall⟩
  rw [hno]
  exact ⟨none, 0, below_keeps k5 bl4 (lt_of_block bl4), (SlAt.nil _ _ 50 _ _).rd, by simp⟩

set_option maxRecDepth 100000 in
set_option maxHeartbeats 2000000 in
theorem does_none (w : World) (bad : List Nat) (b r : Nat) (l : List (Int × Int)) (o : OpH) (h : Pair w bad b r l) (hn : o.n ≤ 9223372036854775807) (hk : o.kind ≠ 0 ∧ o.kind ≠ 1 ∧ o.kind ≠ 2 ∧ o.kind ≠ 3 ∧ o.kind ≠ 4 ∧ o.kind ≠ 5 ∧ o.kind ≠ 6) :
    Calls Try.prog 12 #[.pointer (some ⟨b, 0, none⟩), .pointer (some ⟨r, 0, none⟩), opv o] w fun e w' => e = .returned (.bool true) ∧ ODid bad b r (l) w w' := by
  have q0 : (o.kind == 0) = false := by simp [hk]
  have q1 : (o.kind == 1) = false := by simp [hk]
  have q2 : (o.kind == 2) = false := by simp [hk]
  have q3 : (o.kind == 3) = false := by simp [hk]
  have q4 : (o.kind == 4) = false := by simp [hk]
  have q5 : (o.kind == 5) = false := by simp [hk]
  have q6 : (o.kind == 6) = false := by simp [hk]
  clear hk
  have kB : Below w.heap.size w (w.alloc (.cells #[.int .i64 o.kind, .int .i64 o.n, .int .i64 o.flags] 38)) := (Below.refl _ _).alloc (Nat.le_refl _) _
  have h2 := h.below kB
  have x1 : (w.alloc (.cells #[.int .i64 o.kind, .int .i64 o.n, .int .i64 o.flags] 38)).cell? ⟨w.heap.size, 1, none⟩ = some (.int .i64 o.n) := by rw [cell_of_block (block_new _ _)]; rfl
  have x2 : (w.alloc (.cells #[.int .i64 o.kind, .int .i64 o.n, .int .i64 o.flags] 38)).cell? ⟨w.heap.size, 2, none⟩ = some (.int .i64 o.flags) := by rw [cell_of_block (block_new _ _)]; rfl
  have sB : w.heap.size < (w.alloc (.cells #[.int .i64 o.kind, .int .i64 o.n, .int .i64 o.flags] 38)).heap.size := by simp
  have nb : w.heap.size ≠ b := by have := h.low b h.hb; omega
  have nr : w.heap.size ≠ r := by have := h.low r h.hr; omega
  generalize hW : w.alloc (.cells #[.int .i64 o.kind, .int .i64 o.n, .int .i64 o.flags] 38) = W2 at *
  have HW := Lib.hid hW
  clear hW
  unfold opv
  go_enter Try.func12, Try.ntmps12
  go_wp2_with fail
  go_wp2
  rw [HW.out]
  go_ret
  exact ⟨rfl, h.same kB⟩
end Go.Proofs.Ytbkblfhhhhkeaaa
