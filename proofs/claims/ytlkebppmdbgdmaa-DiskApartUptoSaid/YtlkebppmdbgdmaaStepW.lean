/-
  The walk of the law's 'step': Write and Read on both; every call.
-/
import Derived.Test.YtlkebppmdbgdmaaStep
namespace Go.Proofs.Ytlkebppmdbgdmaa
open Go.RowKit
set_option linter.unusedSimpArgs false
set_option linter.unusedVariables false

/-- both disks were turned, and new blocks -/
structure Step2 (c d : Nat) (col col' : Nat → Nat) (w w' : World) : Prop where
  ext : Ext w.heap.size col col'
  chg : Chg (fun k => inC col c k ∨ inC col d k) w w'
  norm : Norm w' col'
theorem Step2.two {c d : Nat} {col colm col' : Nat → Nat} {w wm w' : World} (k1 : Step c col colm w wm) (k2 : Step d colm col' wm w') : Step2 c d col col' w w' :=
  ⟨k1.ext.trans k2.ext k1.chg.size, (k1.chg.mono (fun _ _ e => Or.inl e)).trans' k2.chg (fun i hi e => Or.inr (by unfold inC at *; rw [k1.ext i hi] at e; exact e)), k2.norm⟩
theorem Step2.touch {c d g : Nat} {col col' : Nat → Nat} {w w1 w2 : World} (h : Step2 c d col col' w w1) (k : Chg (fun j => j = g) w1 w2) (hg : w.heap.size ≤ g) : Step2 c d col col' w w2 :=
  ⟨h.ext, h.chg.trans' k (fun i hi e => by omega), h.norm.grow k.size⟩
theorem Step2.below {c d : Nat} {col col' : Nat → Nat} {w w1 w2 : World} (h : Step2 c d col col' w w1) (k : Below w1.heap.size w1 w2) : Step2 c d col col' w w2 :=
  ⟨h.ext, h.chg.trans (Chg.of_below k), h.norm.grow k.size⟩
def Both2 (c d : Nat) (col : Nat → Nat) (b b2 : Nat) (s : DS) (w w' : World) : Prop :=
  ∃ col', Step2 c d col col' w w' ∧ DiskAt w' 69 col' c b s ∧ RefAt w' col' d b2 s
theorem Both.two {c d b b2 : Nat} {col : Nat → Nat} {s : DS} {w w' : World} : Both c d col b b2 s w w' → Both2 c d col b b2 s w w' := by
  rintro ⟨colm, wm, col', k1, k2, h1, h2⟩
  exact ⟨col', Step2.two k1 k2, h1, h2⟩

/-- bytes that are new and the caller's own -/
def Fresh0 (B : Nat) (col : Nat → Nat) (l : List Int) (w : World) (e : Ending) (w' : World) : Prop :=
  (∃ a cap, e = .returned (.slice a l.length cap) ∧ SlAt w' (fun k => B ≤ k ∧ col k = 0) 5 1 (.slice a l.length cap) l.length (bcells l)) ∧ Below w.heap.size w w'
theorem filled_fresh (w : World) (B : Nat) (hB : B ≤ w.heap.size) (col : Nat → Nat) (hn : Norm w col) (n c : Int) (h0 : 0 ≤ n ∧ n ≤ 1048576) (hc : 0 ≤ c ∧ c < 256) :
    Calls Try.prog 13 #[.int .i64 n, .int .u8 c] w fun e w' => Fresh0 B col (filled n c) w e w' := by
  refine (filled_any w n c h0 hc).mono ?_
  rintro e w' ⟨⟨g, rfl, hg, hb⟩, k⟩
  have hl : (filled n c).length ≤ maxLen := by have := filled_len n c h0.1; unfold maxLen; omega
  refine ⟨⟨_, _, rfl, by simp, ?_⟩, k⟩
  right
  exact ⟨g, 0, _, _, rfl, ⟨by omega, hn g hg⟩, hb, Nat.le_refl _, hl, by simp, by simp [List.take_of_length_le]⟩
theorem tmod8 (n : Int) : -7 ≤ n.tmod 8 ∧ n.tmod 8 ≤ 7 := by
  have h1 := Int.tmod_lt_of_pos n (show (0 : Int) < 8 by omega)
  have h2 := Int.lt_tmod_of_pos n (show (0 : Int) < 8 by omega)
  omega
theorem refAt_cell {w : World} {col : Nat → Nat} {c b : Nat} {s : DS} (h : RefAt w col c b s) : w.cell? ⟨b, 0, none⟩ = some (.int .i64 s.size) := by
  obtain ⟨t, ⟨pa, pcap, qa, qn, qcap, qs, h⟩, rfl⟩ := h
  exact h.size
theorem RefAt.touch {w w' : World} {col : Nat → Nat} {c b g : Nat} {s : DS} (h : RefAt w col c b s) (hc : 1 < c) (k : Chg (fun j => j = g) w w') (hg : col g = 0) : RefAt w' col c b s := by
  obtain ⟨t, h, e⟩ := h
  exact ⟨t, h.touch hc k hg, e⟩

theorem Step.own {w w' : World} {c B : Nat} {col col' : Nat → Nat} {e : TypeId} {size n : Nat} {v : Value} {xs : List Value} (k : Step c col col' w w') (hc : 1 < c) (h : SlAt w (fun j => B ≤ j ∧ col j = 0) e size v n xs) : SlAt w' (fun j => B ≤ j ∧ col' j = 0) e size v n xs :=
  h.keep (fun i hi e => k.chg.block i hi (fun e' => by have := e.2; unfold inC at e'; omega)) (fun i hi e => ⟨e.1, (k.ext i hi).trans e.2⟩)

set_option maxRecDepth 100000 in
set_option maxHeartbeats 2000000 in
theorem step_write (w : World) (col : Nat → Nat) (c d b b2 : Nat) (s : DS) (o : OpD) (a : Option Addr) (cap : Nat) (hd : DiskAt w 69 col c b s) (hx : RefAt w col d b2 s) (ok : s.Ok) (hnm : Norm w col) (hc : 1 < c) (hd1 : 1 < d) (hcd : d + 2 < c ∨ c + 2 < d) (hp : s.pending.length ≤ 1073741824) (hby : 0 ≤ o.byte ∧ o.byte < 256) (hk : o.kind = 1) : Calls Try.prog 30 #[.pointer (some ⟨b, 0, none⟩), .pointer (some ⟨b2, 0, none⟩), opv o a cap] w fun e w' => e = .returned (.bool true) ∧ Both2 c d col b b2 (s.wrote o.n (filled (s.size + o.more.tmod 8) o.byte)) w w' := by
  have q1 : (o.kind == 1) = true := by simp [hk]
  clear hk
  have kB : Below w.heap.size w (w.alloc (.cells #[.int .i64 o.kind, .int .i64 o.n, .int .u8 o.byte, .int .i64 o.more, .slice a o.keep.length cap] 32)) := (Below.refl _ _).alloc (Nat.le_refl _) _
  have hd2 := hd.below kB
  have hx2 := hx.below kB
  have hn2 : Norm (w.alloc (.cells #[.int .i64 o.kind, .int .i64 o.n, .int .u8 o.byte, .int .i64 o.more, .slice a o.keep.length cap] 32)) col := hnm.grow kB.size
  have st0 : Step c col col w (w.alloc (.cells #[.int .i64 o.kind, .int .i64 o.n, .int .u8 o.byte, .int .i64 o.more, .slice a o.keep.length cap] 32)) := Step.below hnm kB
  have x1 : (w.alloc (.cells #[.int .i64 o.kind, .int .i64 o.n, .int .u8 o.byte, .int .i64 o.more, .slice a o.keep.length cap] 32)).cell? ⟨w.heap.size, 1, none⟩ = some (.int .i64 o.n) := by rw [cell_of_block (block_new _ _)]; rfl
  have x2 : (w.alloc (.cells #[.int .i64 o.kind, .int .i64 o.n, .int .u8 o.byte, .int .i64 o.more, .slice a o.keep.length cap] 32)).cell? ⟨w.heap.size, 2, none⟩ = some (.int .u8 o.byte) := by rw [cell_of_block (block_new _ _)]; rfl
  have x3 : (w.alloc (.cells #[.int .i64 o.kind, .int .i64 o.n, .int .u8 o.byte, .int .i64 o.more, .slice a o.keep.length cap] 32)).cell? ⟨w.heap.size, 3, none⟩ = some (.int .i64 o.more) := by rw [cell_of_block (block_new _ _)]; rfl
  have sB : w.heap.size < (w.alloc (.cells #[.int .i64 o.kind, .int .i64 o.n, .int .u8 o.byte, .int .i64 o.more, .slice a o.keep.length cap] 32)).heap.size := by simp
  have hcB : col w.heap.size = 0 := hnm _ (Nat.le_refl _)
  generalize hW : w.alloc (.cells #[.int .i64 o.kind, .int .i64 o.n, .int .u8 o.byte, .int .i64 o.more, .slice a o.keep.length cap] 32) = W2 at *
  have HW := Lib.hid hW
  clear hW
  obtain ⟨t0, t1⟩ := tmod8 o.more
  have s0 := ok.size0
  have s1 := ok.size1
  have hwr : IntKind.i64.wrap (s.size + o.more.tmod 8) = s.size + o.more.tmod 8 := IntWalk.i64_in _ (by omega)
  have hm0 : 0 ≤ s.size + o.more.tmod 8 ∧ s.size + o.more.tmod 8 ≤ 1048576 := by omega
  have x0 := refAt_cell hx2
  have hcc : (s.wcode o.n (filled (s.size + o.more.tmod 8) o.byte) != s.wcode o.n (filled (s.size + o.more.tmod 8) o.byte)) = false := by simp
  -- what the region reads, wherever the box stands as it stood
  have keepB : ∀ w3 : World, w3.heap[w.heap.size]? = W2.heap[w.heap.size]? → w3.cell? ⟨w.heap.size, 1, none⟩ = some (.int .i64 o.n) ∧ w3.cell? ⟨w.heap.size, 2, none⟩ = some (.int .u8 o.byte) ∧ w3.cell? ⟨w.heap.size, 3, none⟩ = some (.int .i64 o.more) := fun w3 k =>
    ⟨(World.cell?_of_block (w := W2) k).trans x1, (World.cell?_of_block (w := W2) k).trans x2, (World.cell?_of_block (w := W2) k).trans x3⟩
  have KeepB := Lib.hid keepB
  clear keepB
  have y1 : W2.drew.cell? ⟨w.heap.size, 1, none⟩ = some (.int .i64 o.n) := x1
  have y2 : W2.drew.cell? ⟨w.heap.size, 2, none⟩ = some (.int .u8 o.byte) := x2
  have y3 : W2.drew.cell? ⟨w.heap.size, 3, none⟩ = some (.int .i64 o.more) := x3
  have y0 : W2.drew.cell? ⟨b2, 0, none⟩ = some (.int .i64 s.size) := x0
  have hnD : Norm W2.drew col := hn2
  have hBD : w.heap.size ≤ W2.drew.heap.size := by show w.heap.size ≤ W2.heap.size; omega
  have hxD := hx2.below (Below.refl _ _).drew
  have hdD := hd2.below (Below.refl _ _).drew
  unfold opv
  go_enter Try.func30, Try.ntmps30
  go_wp2_with fail
  rw [HW.out]
  go_region_held3 (fun w' => w'.cell? ⟨b2, 0, none⟩ = some (.int .i64 s.size) ∧ w'.cell? ⟨w.heap.size, 1, none⟩ = some (.int .i64 o.n) ∧ w'.cell? ⟨w.heap.size, 2, none⟩ = some (.int .u8 o.byte) ∧ w'.cell? ⟨w.heap.size, 3, none⟩ = some (.int .i64 o.more)) (first | exact ⟨y0, y1, y2, y3⟩ | assumption) (first | (go_at_call 13; refine (filled_fresh _ w.heap.size hBD col hnD _ _ hm0 hby).mono ?_; rintro e w3 ⟨⟨a3, cap3, rfl, hs3⟩, k3⟩; (have e3 := k3.block w.heap.size sB); (have c3' : w3.cell? ⟨b2, 0, none⟩ = some (.int .i64 s.size) ∧ w3.cell? ⟨w.heap.size, 1, none⟩ = some (.int .i64 o.n) ∧ w3.cell? ⟨w.heap.size, 2, none⟩ = some (.int .u8 o.byte) ∧ w3.cell? ⟨w.heap.size, 3, none⟩ = some (.int .i64 o.more) := ⟨refAt_cell (hxD.below k3), KeepB.out w3 e3⟩)))
  have E3 := Lib.hid e3
  clear e3
  have kD := Below.refl w3.heap.size w3
  have hd3 := (hdD.below k3).below kD.drew
  have hx3 := (hxD.below k3).below kD.drew
  have hn3 : Norm w3.drew col := hnD.grow k3.size
  have r3 : RdAt w3.drew (Nil0 col) 1 (.slice a3 (filled (s.size + o.more.tmod 8) o.byte).length cap3) _ _ := (hs3.rd.mono (fun k _ e => e.2)).below kD.drew
  have hs3D := hs3.below kD.drew
  have sB3 : w.heap.size < w3.drew.heap.size := Nat.lt_of_lt_of_le sB k3.size
  have st3 : Step c col col w w3.drew := (st0.trans (Step.below hn2 ((Below.refl _ _).drew))).trans ((Step.below hnD k3).trans (Step.below (hnD.grow k3.size) kD.drew))
  have c3D : w3.drew.cell? ⟨b2, 0, none⟩ = some (.int .i64 s.size) ∧ w3.drew.cell? ⟨w.heap.size, 1, none⟩ = some (.int .i64 o.n) ∧ w3.drew.cell? ⟨w.heap.size, 2, none⟩ = some (.int .u8 o.byte) ∧ w3.drew.cell? ⟨w.heap.size, 3, none⟩ = some (.int .i64 o.more) := c3'
  go_wp2_with fail
  go_region_held3 (fun w' => w'.cell? ⟨b2, 0, none⟩ = some (.int .i64 s.size) ∧ w'.cell? ⟨w.heap.size, 1, none⟩ = some (.int .i64 o.n) ∧ w'.cell? ⟨w.heap.size, 2, none⟩ = some (.int .u8 o.byte) ∧ w'.cell? ⟨w.heap.size, 3, none⟩ = some (.int .i64 o.more)) (first | exact c3D | assumption) (first | (go_at_call 14; refine (write_law _ _ _ _ _ _ _ _ hd3 hc ok hn3 r3 hp).mono ?_; rintro e w4 ⟨rfl, col4, hd4, st4⟩; (have e4 := (st4.chg.block w.heap.size sB3 (by unfold inC; omega)).trans E3.out); (have hx4 := st4.refAt hc hcd hx3); (have c4' : w4.cell? ⟨b2, 0, none⟩ = some (.int .i64 s.size) ∧ w4.cell? ⟨w.heap.size, 1, none⟩ = some (.int .i64 o.n) ∧ w4.cell? ⟨w.heap.size, 2, none⟩ = some (.int .u8 o.byte) ∧ w4.cell? ⟨w.heap.size, 3, none⟩ = some (.int .i64 o.more) := ⟨refAt_cell hx4, KeepB.out w4 e4⟩); (have E4 := Lib.hid e4); clear e4) | (go_at_call 13; refine (filled_law w4 col4 st4.norm _ _ hm0 hby).mono ?_; rintro e w5 ⟨⟨a5, cap5, rfl, hs5⟩, k5⟩; (have sB4 : w.heap.size < w4.heap.size := Nat.lt_of_lt_of_le sB3 st4.chg.size); (have e5 := (k5.block w.heap.size sB4).trans E4.out); (have hx5 := hx4.below k5); (have c5' : w5.cell? ⟨b2, 0, none⟩ = some (.int .i64 s.size) ∧ w5.cell? ⟨w.heap.size, 1, none⟩ = some (.int .i64 o.n) ∧ w5.cell? ⟨w.heap.size, 2, none⟩ = some (.int .u8 o.byte) ∧ w5.cell? ⟨w.heap.size, 3, none⟩ = some (.int .i64 o.more) := ⟨refAt_cell hx5, KeepB.out w5 e5⟩); (have E5 := Lib.hid e5); clear e5; (have hn5 := st4.norm.grow k5.size); (have h04 : col4 w.heap.size = 0 := (st4.ext _ sB3).trans hcB)) | (go_at_call 43; refine (refwrite_law hx5 ok hn5 hd1 _ _ _ hs5.rd hp).mono ?_; rintro e w6 ⟨rfl, col6, hx6, st6⟩; (have e6 := (st6.chg.block w.heap.size (Nat.lt_of_lt_of_le sB4 k5.size) (by unfold inC; omega)).trans E5.out); (have c6' : w6.cell? ⟨b2, 0, none⟩ = some (.int .i64 s.size) ∧ w6.cell? ⟨w.heap.size, 1, none⟩ = some (.int .i64 o.n) ∧ w6.cell? ⟨w.heap.size, 2, none⟩ = some (.int .u8 o.byte) ∧ w6.cell? ⟨w.heap.size, 3, none⟩ = some (.int .i64 o.more) := ⟨by rw [refAt_cell hx6, wrote_size], KeepB.out w6 e6⟩); (have E6 := Lib.hid e6); clear e6))
  have hd6 := st6.other hd1 (by omega) (hd4.below k5)
  have hs6 := st6.own hd1 ((st4.own hc hs3D).below k5)
  have st26 : Step2 c d col col6 w w6 := Step2.two ((st3.trans st4).trans (Step.below st4.norm k5)) st6
  have hfl := filled_len (s.size + o.more.tmod 8) o.byte hm0.1
  have hfl2 : (filled (s.size + o.more.tmod 8) o.byte).length ≤ 1048576 := by omega
  clear hfl hd4 hx4 hx5 hd3 hx3 r3 hs3 hs3D hs5 c3' c4' c5' c6' c3D y0 y1 y2 y3 x0 x1 x2 x3 hwr
  generalize hFL : filled (s.size + o.more.tmod 8) o.byte = fl at *
  have HFL := Lib.hid hFL
  clear hFL
  go_wp2_with fail
  go_loopw [8] (fun i wr => ∃ (k : Nat) (l' : List Int), k ≤ fl.length ∧ i = .int .i64 k ∧ Step2 c d col col6 w wr ∧ DiskAt wr 69 col6 c b (s.wrote o.n fl) ∧ RefAt wr col6 d b2 (s.wrote o.n fl) ∧ SlAt wr (fun k => w.heap.size ≤ k ∧ col6 k = 0) 5 1 (.slice a3 fl.length cap3) fl.length (bcells l') ∧ Hid (l'.length = fl.length)) (fun i _ => fl.length - (intOf i).toNat)
  case atStart => exact ⟨0, fl, by omega, rfl, st26, hd6, hx6, hs6, rfl⟩
  case round =>
    obtain ⟨k, l', hk, rfl, hst, hd, hx, hs, hl'⟩ := hrel
    by_cases hlt : k < fl.length
    · obtain ⟨g, off, rfl, _, _, hjunk⟩ := hs.rd.get (by omega)
      clear hjunk
      have hkl : k < l'.length := by have := hl'.out; omega
      obtain ⟨hg, hgl, c1, f1, _⟩ := hs.poke hlt (.int .u8 0)
      rw [bcells_get hkl] at c1
      have i0' : (0 : Int) ≤ (k : Int) := by omega
      have i1' : (k : Int) < (fl.length : Int) := by omega
      go_wp2
      have hp := (hs.poke hlt (.int .u8 (IntKind.u8.wrap (l'[k] + 1)))).2.2.2.2
      have hch : Chg (fun j => j = g) wr (wr.setCell ⟨g, off + k, none⟩ (.int .u8 (IntKind.u8.wrap (l'[k] + 1)))) := Chg.of_set _ _ _ _ rfl
      go_roundw
      case rel =>
        refine ⟨k + 1, l'.set k (IntKind.u8.wrap (l'[k] + 1)), by omega, by go_num, hst.touch hch hg.1, hd.touch hc hch hg.2, hx.touch hd1 hch hg.2, ?_, by show _ = _; rw [List.length_set]; exact hl'.out⟩
        have e : bcells (l'.set k (IntKind.u8.wrap (l'[k] + 1))) = (bcells l').set k (.int .u8 (IntKind.u8.wrap (l'[k] + 1))) := by simp [bcells, List.map_set]
        rw [e]
        exact hp
      case measure => simp [intOf]; omega
    · obtain rfl : k = fl.length := by omega
      go_wp2
      go_ret
      rw [HFL.out]
      exact ⟨rfl, col6, hst, hd, hx⟩
set_option maxRecDepth 100000 in
set_option maxHeartbeats 2000000 in
theorem step_read (w : World) (col : Nat → Nat) (c d b b2 : Nat) (s : DS) (o : OpD) (a : Option Addr) (cap : Nat) (hd : DiskAt w 69 col c b s) (hx : RefAt w col d b2 s) (ok : s.Ok) (hnm : Norm w col) (hc : 1 < c) (hd1 : 1 < d) (hcd : d + 2 < c ∨ c + 2 < d) (hp : s.pending.length ≤ 1073741824) (hk : o.kind = 2) (hn : 0 ≤ o.n ∧ o.n < s.count) : Calls Try.prog 30 #[.pointer (some ⟨b, 0, none⟩), .pointer (some ⟨b2, 0, none⟩), opv o a cap] w fun e w' => e = .returned (.bool true) ∧ Both2 c d col b b2 s.read w w' := by
  have q1 : (o.kind == 1) = false := by simp [hk]
  have q2 : (o.kind == 2) = true := by simp [hk]
  clear hk
  have kB : Below w.heap.size w (w.alloc (.cells #[.int .i64 o.kind, .int .i64 o.n, .int .u8 o.byte, .int .i64 o.more, .slice a o.keep.length cap] 32)) := (Below.refl _ _).alloc (Nat.le_refl _) _
  have hd2 := hd.below kB
  have hx2 := hx.below kB
  have hn2 : Norm (w.alloc (.cells #[.int .i64 o.kind, .int .i64 o.n, .int .u8 o.byte, .int .i64 o.more, .slice a o.keep.length cap] 32)) col := hnm.grow kB.size
  have st0 : Step c col col w (w.alloc (.cells #[.int .i64 o.kind, .int .i64 o.n, .int .u8 o.byte, .int .i64 o.more, .slice a o.keep.length cap] 32)) := Step.below hnm kB
  have x1 : (w.alloc (.cells #[.int .i64 o.kind, .int .i64 o.n, .int .u8 o.byte, .int .i64 o.more, .slice a o.keep.length cap] 32)).cell? ⟨w.heap.size, 1, none⟩ = some (.int .i64 o.n) := by rw [cell_of_block (block_new _ _)]; rfl
  have sB : w.heap.size < (w.alloc (.cells #[.int .i64 o.kind, .int .i64 o.n, .int .u8 o.byte, .int .i64 o.more, .slice a o.keep.length cap] 32)).heap.size := by simp
  have hcB : col w.heap.size = 0 := hnm _ (Nat.le_refl _)
  generalize hW : w.alloc (.cells #[.int .i64 o.kind, .int .i64 o.n, .int .u8 o.byte, .int .i64 o.more, .slice a o.keep.length cap] 32) = W2 at *
  have HW := Lib.hid hW
  clear hW
  have hse : Hid ((s.sector o.n == s.sector o.n) = true) := by show _ = _; simp
  obtain ⟨h0, h1⟩ := hn
  unfold opv
  go_enter Try.func30, Try.ntmps30
  go_wp2_with fail
  rw [HW.out]
  refine (read_ok W2 col c b s o.n hd2 hc ok hp h0 h1).mono ?_
  rintro e w3 ⟨a3, cap3, rfl, hs3, hd3, k3⟩
  have st3 : Step c col col W2 w3 := ⟨Ext.refl _ _, k3, hn2.grow k3.size⟩
  have hx3 := st3.refAt hc hcd hx2
  have y1 := (k3.cell (p := ⟨w.heap.size, 1, none⟩) sB (by unfold inC; simp only; omega)).trans x1
  go_wp2_with fail
  refine (refread_law hx3 ok st3.norm hd1 hp o.n h0 h1).mono ?_
  rintro e w4 ⟨⟨a4, cap4, rfl, hs4⟩, hx4, st4⟩
  have hd4 := st4.other hd1 (by omega) hd3
  have hs34 : SlAt w4 (fun k => w.heap.size ≤ k ∧ col k = 0) 5 1 (.slice a3 (s.sector o.n).length cap3) (s.sector o.n).length (bcells (s.sector o.n)) := st4.own hd1 (hs3.mono (fun k _ e => ⟨by omega, hn2 k e⟩))
  go_wp2_with fail
  refine (sameBytes_any _ _ _ _ _ _ _ hs34.rd hs4).mono ?_
  rw [hse.out]
  rintro e w5 ⟨rfl, k5⟩
  have hd5 := hd4.below k5
  have hx5 := hx4.below k5
  have hs5 := hs34.below k5
  have st5 : Step2 c d col col w w5 := (Step2.two (st0.trans st3) st4).below k5
  have hfl2 : (s.sector o.n).length ≤ maxLen := by obtain ⟨_, _, _, hm⟩ := RdAt.shape hs4; exact hm
  unfold maxLen at hfl2
  clear hd4 hx4 hs4 hs34 hs3 hd3 hx3 y1 x1
  generalize s.sector o.n = fl at *
  go_wp2_with fail
  go_loopw [13] (fun i wr => ∃ (k : Nat) (l' : List Int), k ≤ fl.length ∧ i = .int .i64 k ∧ Step2 c d col col w wr ∧ DiskAt wr 69 col c b s.read ∧ RefAt wr col d b2 s.read ∧ SlAt wr (fun k => w.heap.size ≤ k ∧ col k = 0) 5 1 (.slice a3 fl.length cap3) fl.length (bcells l') ∧ Hid (l'.length = fl.length)) (fun i _ => fl.length - (intOf i).toNat)
  case atStart => exact ⟨0, fl, by omega, rfl, st5, hd5, hx5, hs5, rfl⟩
  case round =>
    obtain ⟨k, l', hk, rfl, hst, hd, hx, hs, hl'⟩ := hrel
    by_cases hlt : k < fl.length
    · obtain ⟨g, off, rfl, _, _, hjunk⟩ := hs.rd.get (by omega)
      clear hjunk
      have hkl : k < l'.length := by have := hl'.out; omega
      obtain ⟨hg, hgl, c1, f1, _⟩ := hs.poke hlt (.int .u8 0)
      rw [bcells_get hkl] at c1
      have i0' : (0 : Int) ≤ (k : Int) := by omega
      have i1' : (k : Int) < (fl.length : Int) := by omega
      go_wp2
      have hp := (hs.poke hlt (.int .u8 (IntKind.u8.wrap (l'[k] + 1)))).2.2.2.2
      have hch : Chg (fun j => j = g) wr (wr.setCell ⟨g, off + k, none⟩ (.int .u8 (IntKind.u8.wrap (l'[k] + 1)))) := Chg.of_set _ _ _ _ rfl
      go_roundw
      case rel =>
        refine ⟨k + 1, l'.set k (IntKind.u8.wrap (l'[k] + 1)), by omega, by go_num, hst.touch hch hg.1, hd.touch hc hch hg.2, hx.touch hd1 hch hg.2, ?_, by show _ = _; rw [List.length_set]; exact hl'.out⟩
        have e : bcells (l'.set k (IntKind.u8.wrap (l'[k] + 1))) = (bcells l').set k (.int .u8 (IntKind.u8.wrap (l'[k] + 1))) := by simp [bcells, List.map_set]
        rw [e]
        exact hp
      case measure => simp [intOf]; omega
    · obtain rfl : k = fl.length := by omega
      go_wp2
      go_ret
      exact ⟨rfl, col, hst, hd, hx⟩
set_option maxRecDepth 100000 in
set_option maxHeartbeats 2000000 in
theorem step_read_bad (w : World) (col : Nat → Nat) (c d b b2 : Nat) (s : DS) (o : OpD) (a : Option Addr) (cap : Nat) (hd : DiskAt w 69 col c b s) (hx : RefAt w col d b2 s) (ok : s.Ok) (hnm : Norm w col) (hk : o.kind = 2) (hn : ¬ (0 ≤ o.n ∧ o.n < s.count)) : Calls Try.prog 30 #[.pointer (some ⟨b, 0, none⟩), .pointer (some ⟨b2, 0, none⟩), opv o a cap] w fun e w' => e = .returned (.bool true) ∧ Both2 c d col b b2 s w w' := by
  have q1 : (o.kind == 1) = false := by simp [hk]
  have q2 : (o.kind == 2) = true := by simp [hk]
  clear hk
  have kB : Below w.heap.size w (w.alloc (.cells #[.int .i64 o.kind, .int .i64 o.n, .int .u8 o.byte, .int .i64 o.more, .slice a o.keep.length cap] 32)) := (Below.refl _ _).alloc (Nat.le_refl _) _
  have hd2 := hd.below kB
  have hx2 := hx.below kB
  have hn2 : Norm (w.alloc (.cells #[.int .i64 o.kind, .int .i64 o.n, .int .u8 o.byte, .int .i64 o.more, .slice a o.keep.length cap] 32)) col := hnm.grow kB.size
  have st0 : Step c col col w (w.alloc (.cells #[.int .i64 o.kind, .int .i64 o.n, .int .u8 o.byte, .int .i64 o.more, .slice a o.keep.length cap] 32)) := Step.below hnm kB
  have x1 : (w.alloc (.cells #[.int .i64 o.kind, .int .i64 o.n, .int .u8 o.byte, .int .i64 o.more, .slice a o.keep.length cap] 32)).cell? ⟨w.heap.size, 1, none⟩ = some (.int .i64 o.n) := by rw [cell_of_block (block_new _ _)]; rfl
  have sB : w.heap.size < (w.alloc (.cells #[.int .i64 o.kind, .int .i64 o.n, .int .u8 o.byte, .int .i64 o.more, .slice a o.keep.length cap] 32)).heap.size := by simp
  generalize hW : w.alloc (.cells #[.int .i64 o.kind, .int .i64 o.n, .int .u8 o.byte, .int .i64 o.more, .slice a o.keep.length cap] 32) = W2 at *
  have HW := Lib.hid hW
  clear hW
  have HN := Lib.hid hn
  clear hn
  have hnil : ∀ (W' : World), RdAt W' (Nil0 col) 1 (.slice none 0 0) ([] : List Int).length (bcells []) := fun W' => (SlAt.nil _ _ 5 _ _).rd
  have Hnil := Lib.hid hnil
  clear hnil
  have hse : Hid ((([] : List Int) == []) = true) := by show _ = _; simp
  unfold opv
  go_enter Try.func30, Try.ntmps30
  go_wp2_with fail
  rw [HW.out]
  refine (read_bad W2 col c b s o.n hd2 ok HN.out).mono ?_
  rintro e w3 ⟨rfl, k3⟩
  have hd3 := hd2.below k3
  have hx3 := hx2.below k3
  have y1 := (k3.cell (p := ⟨w.heap.size, 1, none⟩) sB).trans x1
  obtain ⟨t, hxt, het⟩ := id hx3
  have HN2 : Hid (¬ (0 ≤ o.n ∧ o.n < t.count)) := by show ¬ _; rw [show t.count = s.count by rw [← het]; rfl]; exact HN.out
  clear het
  go_wp2_with fail
  refine (refread_bad w3 col d b2 t o.n hxt HN2.out).mono ?_
  rintro e w4 ⟨rfl, rfl⟩
  go_wp2_with fail
  refine (sameBytes_any _ _ _ _ _ [] [] (Hnil.out _) (Hnil.out _)).mono ?_
  rw [hse.out]
  rintro e w5 ⟨rfl, k5⟩
  go_wp2_with fail
  go_loopw [13] (fun i wr => i = .int .i64 0 ∧ wr = w5) (fun i _ => 0)
  case atStart => exact ⟨rfl, rfl⟩
  case round =>
    obtain ⟨rfl, rfl⟩ := hrel
    go_wp2
    go_ret
    have st : Step c col col w wr := st0.trans ((Step.below hn2 k3).trans (Step.below (hn2.grow k3.size) k5))
    exact ⟨rfl, col, Step2.two (d := d) st (Step.below st.norm (Below.refl _ _)), hd3.below k5, hx3.below k5⟩
theorem crashed_Ok {s : DS} (ok : s.Ok) (keep : List Int) : (s.crashed keep).Ok := by
  unfold DS.crashed
  split
  · rename_i h; exact crash_Ok ok h
  · exact ok
theorem crashed_pend (s : DS) (keep : List Int) : (s.crashed keep).pending.length ≤ s.pending.length := by
  unfold DS.crashed
  split
  · simp [DS.crash]
  · exact Nat.le_refl _
theorem stop_pend (s : DS) (n : Int) : (s.stop n).pending.length ≤ s.pending.length := Nat.le_refl _
theorem stepS_Ok {s : DS} (ok : s.Ok) (o : OpD) (hn : o.n ≤ 9223372036854775807) : (stepS s o).Ok := by
  unfold stepS
  repeat' split
  · exact wrote_Ok ok _ _
  · exact read_Ok ok
  · exact ok
  · exact flush_Ok ok
  · exact crashed_Ok ok _
  · exact stop_Ok ok hn
  · exact ok
theorem stepS_pend (s : DS) (o : OpD) : (stepS s o).pending.length ≤ s.pending.length + 1 := by
  unfold stepS
  repeat' split
  · exact wrote_pend _ _ _
  · exact Nat.le_succ _
  · exact Nat.le_succ _
  · exact Nat.le_succ_of_le (flush_pend _)
  · exact Nat.le_succ_of_le (crashed_pend _ _)
  · exact Nat.le_succ_of_le (stop_pend _ _)
  · exact Nat.le_succ _
theorem crashed_size (s : DS) (keep : List Int) : (s.crashed keep).size = s.size := by
  unfold DS.crashed
  split <;> rfl
theorem stepS_size (s : DS) (o : OpD) : (stepS s o).size = s.size := by
  unfold stepS
  repeat' split
  · exact wrote_size _ _ _
  · rfl
  · rfl
  · exact flush_size _
  · exact crashed_size _ _
  · rfl
  · rfl

/-- STEP: a call on both -/
theorem step_any (w : World) (col : Nat → Nat) (c d b b2 : Nat) (s : DS) (o : OpD) (a : Option Addr) (cap : Nat) (hd : DiskAt w 69 col c b s) (hx : RefAt w col d b2 s) (ok : s.Ok) (hnm : Norm w col) (hc : 1 < c) (hd1 : 1 < d) (hcd : d + 2 < c ∨ c + 2 < d) (hp : s.pending.length ≤ 1073741824) (hby : 0 ≤ o.byte ∧ o.byte < 256)
    (hv : RdAt w (Nil0 col) 1 (.slice a o.keep.length cap) o.keep.length (o.keep.map (Value.int .i64))) : Calls Try.prog 30 #[.pointer (some ⟨b, 0, none⟩), .pointer (some ⟨b2, 0, none⟩), opv o a cap] w fun e w' => e = .returned (.bool true) ∧ Both2 c d col b b2 (stepS s o) w w' := by
  unfold stepS
  by_cases k1 : o.kind = 1
  · rw [if_pos k1]; exact step_write w col c d b b2 s o a cap hd hx ok hnm hc hd1 hcd hp hby k1
  rw [if_neg k1]
  by_cases k2 : o.kind = 2
  · rw [if_pos k2]
    by_cases hn : 0 ≤ o.n ∧ o.n < s.count
    · rw [if_pos hn]; exact step_read w col c d b b2 s o a cap hd hx ok hnm hc hd1 hcd hp k2 hn
    · rw [if_neg hn]; exact step_read_bad w col c d b b2 s o a cap hd hx ok hnm k2 hn
  rw [if_neg k2]
  by_cases k3 : o.kind = 3
  · rw [if_pos k3]; exact (step_flush w col c d b b2 s o a cap hd hx ok hnm hc hd1 hcd hp k3).mono fun _ _ ⟨h1, h2⟩ => ⟨h1, h2.two⟩
  rw [if_neg k3]
  by_cases k5 : o.kind = 5
  · rw [if_pos k5]; exact (step_crash w col c d b b2 s o a cap hd hx ok hnm hc hd1 hcd hp hv k5).mono fun _ _ ⟨h1, h2⟩ => ⟨h1, h2.two⟩
  rw [if_neg k5]
  by_cases k9 : o.kind = 9
  · rw [if_pos k9]; exact (step_stop w col c d b b2 s o a cap hd hx ok hnm hc hd1 hcd hp k9).mono fun _ _ ⟨h1, h2⟩ => ⟨h1, h2.two⟩
  rw [if_neg k9]
  by_cases k4 : o.kind = 4
  · exact (step_pending w col c d b b2 s o a cap hd hx ok hnm hc hd1 hcd hp k4).mono fun _ _ ⟨h1, h2⟩ => ⟨h1, h2.two⟩
  by_cases k6 : o.kind = 6
  · exact (step_image w col c d b b2 s o a cap hd hx ok hnm hc hd1 hcd hp k6).mono fun _ _ ⟨h1, h2⟩ => ⟨h1, h2.two⟩
  by_cases k10 : o.kind = 10
  · exact (step_off w col c d b b2 s o a cap hd hx ok hnm hc hd1 hcd hp k10).mono fun _ _ ⟨h1, h2⟩ => ⟨h1, h2.two⟩
  exact (step_else w col c d b b2 s o a cap hd hx ok hnm hc hd1 hcd hp ⟨k1, k2, k3, k4, k5, k6, k9, k10⟩).mono fun _ _ ⟨h1, h2⟩ => ⟨h1, h2.two⟩
end Go.Proofs.Ytlkebppmdbgdmaa
