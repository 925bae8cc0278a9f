/-
  The walk of HandleNobody: a nil table, and one that New did not give.
-/
import Derived.Test.YtbkblfhhhhkeaaaDoesLaw
namespace Go.Proofs.Ytbkblfhhhhkeaaa
open Go.RowKit
set_option linter.unusedSimpArgs false
set_option linter.unusedVariables false

def zeroTab : Array Value := (.bool false :: freeSlots).toArray
theorem zeroTab_size : zeroTab.size = 129 := by simp [zeroTab, freeSlots_len]
def NoTab (w : World) (p : Option Addr) : Prop := p = none ∨ ∃ b, p = some ⟨b, 0, none⟩ ∧ w.heap[b]? = some (.cells zeroTab 47 (0, 0))
theorem NoTab.below {w w' : World} {p : Option Addr} (h : NoTab w p) (k : Below w.heap.size w w') : NoTab w' p := by
  rcases h with h | ⟨b, h, hb⟩
  · exact Or.inl h
  · exact Or.inr ⟨b, h, below_keeps k hb (lt_of_block hb)⟩
theorem NoTab.made {w : World} {b : Nat} (hb : w.heap[b]? = some (.cells zeroTab 47 (0, 0))) : w.cell? ⟨b, 0, none⟩ = some (.bool false) := by rw [cell_of_block hb]; simp [zeroTab]

theorem n_is (w : World) (p : Option Addr) (n : Int) (h : NoTab w p) : Calls Try.prog 21 #[.pointer p, .int .i64 n] w fun e w' => e = .returned (.bool false) ∧ w = w' := by
  rcases h with rfl | ⟨b, rfl, hb⟩
  · go_enter Try.func21, Try.ntmps21
    go_wp2
    go_ret
    exact ⟨rfl, rfl⟩
  · have c0 := NoTab.made hb
    go_enter Try.func21, Try.ntmps21
    go_wp2
    go_ret
    exact ⟨rfl, rfl⟩
theorem n_open (w : World) (p : Option Addr) (i f : Int) (h : NoTab w p) : Calls Try.prog 9 #[.pointer p, .int .i64 i, .int .i64 f] w fun e w' => e = .returned (.tuple #[.int .i64 0, .int .i64 237]) ∧ w = w' := by
  rcases h with rfl | ⟨b, rfl, hb⟩
  · go_enter Try.func9, Try.ntmps9
    go_wp2
    go_ret2
    exact ⟨rfl, rfl⟩
  · have c0 := NoTab.made hb
    go_enter Try.func9, Try.ntmps9
    go_wp2
    go_ret2
    exact ⟨rfl, rfl⟩
theorem n_close (w : World) (p : Option Addr) (n : Int) (h : NoTab w p) : Calls Try.prog 11 #[.pointer p, .int .i64 n] w fun e w' => e = .returned (.tuple #[.int .i64 0, .bool false, .int .i64 237]) ∧ w = w' := by
  go_enter Try.func11, Try.ntmps11
  go_wp2_with (go_at_call 21; refine (n_is w p n h).mono ?_; rintro e w' ⟨rfl, rfl⟩)
  go_ret3
  exact ⟨rfl, rfl⟩
theorem n_get (w : World) (p : Option Addr) (n : Int) (h : NoTab w p) : Calls Try.prog 15 #[.pointer p, .int .i64 n] w fun e w' => e = .returned (.tuple #[.agg #[.int .i64 0, .int .i64 0, .int .i64 0], .int .i64 237]) ∧ Below w.heap.size w w' := by
  have kb : Below w.heap.size w (w.alloc (.cells #[.int .i64 0, .int .i64 0, .int .i64 0] 50)) := (Below.refl _ _).alloc (Nat.le_refl _) _
  go_enter Try.func15, Try.ntmps15
  go_wp2_with (go_at_call 21; refine (n_is _ p n (h.below kb)).mono ?_; rintro e w' ⟨rfl, rfl⟩)
  exact bodyPost_ret (v := .tuple #[.agg #[.int .i64 0, .int .i64 0, .int .i64 0], .int .i64 237]) (by simp [results, Try.results15, go_sem]) rfl ⟨rfl, kb⟩
theorem n_all (w : World) (p : Option Addr) (h : NoTab w p) : Calls Try.prog 16 #[.pointer p] w fun e w' => e = .returned (.slice none 0 0) ∧ w = w' := by
  rcases h with rfl | ⟨b, rfl, hb⟩
  · go_enter Try.func16, Try.ntmps16
    go_wp2
    go_ret
    exact ⟨rfl, rfl⟩
  · have c0 := NoTab.made hb
    go_enter Try.func16, Try.ntmps16
    go_wp2
    go_ret
    exact ⟨rfl, rfl⟩
theorem n_count (w : World) (p : Option Addr) (n : Int) (h : NoTab w p) : Calls Try.prog 10 #[.pointer p, .int .i64 n] w fun e w' => e = .returned (.int .i64 0) ∧ w = w' := by
  go_enter Try.func10, Try.ntmps10
  go_wp2_with (go_at_call 16; refine (n_all w p h).mono ?_; rintro e w' ⟨rfl, rfl⟩)
  refine wp_loop_rounds 1 ?_
  rw [rounds_succ]
  go_wp2
  go_ret
  exact ⟨rfl, rfl⟩
theorem n_inodes (w : World) (p : Option Addr) (h : NoTab w p) : Calls Try.prog 17 #[.pointer p] w fun e w' => (∃ a c, e = .returned (.slice a 0 c)) ∧ Below w.heap.size w w' := by
  have h0 : inosOf [] = [] := rfl
  have := hinodes_of (H := Unit) w p [] (by simp) (by simp) (fun W' k => (n_all W' p (h.below k)).mono (by
    rintro e w' ⟨rfl, rfl⟩
    exact ⟨⟨none, 0, rfl, World.ownsRow_nil _ _ _ _⟩, Below.refl _ _⟩))
  refine this.mono ?_
  rintro e w' ⟨⟨a, c, rfl, _⟩, k⟩
  exact ⟨⟨a, c, rfl⟩, k⟩
theorem n_fork (w : World) (p : Option Addr) (h : NoTab w p) : Calls Try.prog 14 #[.pointer p] w fun e w' => e = .returned (.pointer none) ∧ w = w' := by
  rcases h with rfl | ⟨b, rfl, hb⟩
  · go_enter Try.func14, Try.ntmps14
    go_wp2
    go_ret
    exact ⟨rfl, rfl⟩
  · have c0 := NoTab.made hb
    go_enter Try.func14, Try.ntmps14
    go_wp2
    go_ret
    exact ⟨rfl, rfl⟩
theorem zero_again {w : World} {b : Nat} (hb : w.heap[b]? = some (.cells zeroTab 47 (0, 0))) : (w.setCells b 1 freeSlots).heap[b]? = some (.cells zeroTab 47 (0, 0)) := by
  have h := block_setCells freeSlots 1 hb
  have e : setAll zeroTab 1 freeSlots = zeroTab := by
    unfold zeroTab
    rw [setAll_list _ _ _ (by simp [freeSlots_len])]
    rw [List.drop_eq_nil_of_le (by simp [freeSlots_len])]
    simp
  rw [e] at h
  exact h
set_option maxRecDepth 100000 in
set_option maxHeartbeats 1000000 in
theorem n_clear (w : World) (p : Option Addr) (h : NoTab w p) : Calls Try.prog 18 #[.pointer p] w fun e w' => (∃ a c, e = .returned (.slice a 0 c)) ∧ NoTab w' p ∧ Chg (fun k => p = some ⟨k, 0, none⟩) w w' := by
  have hz : ∀ w, (zeroValue 45).run Try.prog w = .ok (.agg freeSlots.toArray) w := fun _ => by kernel_rfl
  rcases h with rfl | ⟨b, rfl, hb⟩
  · go_enter Try.func18, Try.ntmps18
    go_wp2_with fail
    refine (n_inodes _ _ (Or.inl rfl)).mono ?_
    rintro e w1 ⟨⟨a1, c1, rfl⟩, k1⟩
    go_wp2
    go_ret
    exact ⟨⟨_, _, rfl⟩, Or.inl rfl, Chg.of_below k1⟩
  · go_enter Try.func18, Try.ntmps18
    go_wp2_with fail
    refine (n_inodes _ _ (Or.inr ⟨b, rfl, hb⟩)).mono ?_
    rintro e w1 ⟨⟨a1, c1, rfl⟩, k1⟩
    have hb1 := below_keeps k1 hb (lt_of_block hb)
    have hth : w1.there b 1 (freeSlots.toArray.size) := fun j hj => by
      have hj' : j < 128 := by simpa [freeSlots_len] using hj
      refine ⟨?_, free_of_block hb1 _⟩
      rw [cell_of_block hb1]
      have := zeroTab_size
      simp; omega
    have Hth := Lib.hid hth
    clear hth
    go_wp2_with (refine wpList_store_mid rfl 45 (.tmp 11) (.tmp 9) rfl b 1 freeSlots.toArray rfl rfl Hth.out (by rw [info45]; simp [freeSlots_len]) (all_oneCell_toArray (slots_one _)) ?_)
    have e1 := zero_again hb1
    have e2 : Chg (fun k => some (⟨b, 0, none⟩ : Addr) = some ⟨k, 0, none⟩) w (w1.setCells b 1 freeSlots) := chg_setCells _ _ (Chg.of_below k1) (fun _ => rfl)
    clear hz Hth
    generalize w1.setCells b 1 freeSlots = w9 at *
    go_ret
    exact ⟨⟨_, _, rfl⟩, Or.inr ⟨b, rfl, e1⟩, e2⟩

set_option maxRecDepth 100000 in
set_option maxHeartbeats 2000000 in
theorem nobody_any (W : World) (o : OpH) : Calls Try.prog 6 #[opv o] W fun e w' => e = .returned (.bool true) ∧ Below W.heap.size W w' := by
  have hz : ∀ w, (zeroValue 47).run Try.prog w = .ok (.agg zeroTab) w := fun _ => by kernel_rfl
  have kB : Below W.heap.size W (W.alloc (.cells #[.int .i64 o.kind, .int .i64 o.n, .int .i64 o.flags] 38)) := (Below.refl _ _).alloc (Nat.le_refl _) _
  have bO := block_new W (.cells #[.int .i64 o.kind, .int .i64 o.n, .int .i64 o.flags] 38)
  unfold opv
  go_enter Try.func6, Try.ntmps6
  go_wp2_with fail
  refine (awake_any _).mono ?_
  rintro e w1 ⟨rfl, k1⟩
  have b1 := below_keeps k1 bO (by simp)
  have kW1 := kB.trans (k1.mono kB.size)
  clear bO k1 kB
  go_wp2_with fail
  have s1 := kW1.size
  have sO : W.heap.size < w1.heap.size := lt_of_block b1
  have bt : ((w1.alloc (.cells zeroTab 47)).alloc (.cells #[.pointer none, .pointer (some ⟨w1.heap.size, 0, none⟩)] 22)).heap[w1.heap.size]? = some (.cells zeroTab 47 (0, 0)) := block_old _ (block_new _ _)
  have bs : ((w1.alloc (.cells zeroTab 47)).alloc (.cells #[.pointer none, .pointer (some ⟨w1.heap.size, 0, none⟩)] 22)).heap[w1.heap.size + 1]? = some (.cells #[.pointer none, .pointer (some ⟨w1.heap.size, 0, none⟩)] 22 (0, 0)) := by
    have := block_new (w1.alloc (.cells zeroTab 47)) (.cells #[.pointer none, .pointer (some ⟨w1.heap.size, 0, none⟩)] 22)
    simpa using this
  have bo := block_old (.cells #[.pointer none, .pointer (some ⟨w1.heap.size, 0, none⟩)] 22) (block_old (.cells zeroTab 47) b1)
  have kW2 : Below W.heap.size W ((w1.alloc (.cells zeroTab 47)).alloc (.cells #[.pointer none, .pointer (some ⟨w1.heap.size, 0, none⟩)] 22)) := (kW1.alloc s1 _).alloc (by simp; omega) _
  generalize (w1.alloc (.cells zeroTab 47)).alloc (.cells #[.pointer none, .pointer (some ⟨w1.heap.size, 0, none⟩)] 22) = W2 at *
  generalize w1.heap.size = T at *
  clear hz b1 kW1 w1
  go_loopw [18] (fun i wr => ∃ k : Nat, k ≤ 2 ∧ i = .int .i64 k ∧ Below W.heap.size W wr ∧ wr.heap[W.heap.size]? = some (.cells #[.int .i64 o.kind, .int .i64 o.n, .int .i64 o.flags] 38 (0, 0)) ∧ wr.heap[T]? = some (.cells zeroTab 47 (0, 0)) ∧ wr.heap[T + 1]? = some (.cells #[.pointer none, .pointer (some ⟨T, 0, none⟩)] 22 (0, 0))) (fun i _ => 2 - (intOf i).toNat)
  case atStart => exact ⟨0, by omega, rfl, kW2, bo, bt, bs⟩
  case round =>
    clear bt bs bo kW2
    obtain ⟨k, hk, rfl, hbw, bo, bt, bs⟩ := hrel
    by_cases hlt : k < 2
    · have hcell : ∃ p, wr.cell? ⟨T + 1, k, none⟩ = some (.pointer p) ∧ NoTab wr p ∧ (p = none ∨ p = some ⟨T, 0, none⟩) := by
        rw [cell_of_block bs]
        obtain rfl | rfl : k = 0 ∨ k = 1 := by omega
        · exact ⟨none, rfl, Or.inl rfl, Or.inl rfl⟩
        · exact ⟨some ⟨T, 0, none⟩, rfl, Or.inr ⟨T, rfl, bt⟩, Or.inr rfl⟩
      obtain ⟨p, hcell, hnt, hp⟩ := hcell
      have HP := Lib.hid hp
      clear hp
      have x1 : wr.cell? ⟨W.heap.size, 1, none⟩ = some (.int .i64 o.n) := (cell_of_block bo 1).trans rfl
      have x2 : wr.cell? ⟨W.heap.size, 2, none⟩ = some (.int .i64 o.flags) := (cell_of_block bo 2).trans rfl
      have i0 : (0 : Int) ≤ (k : Int) := by omega
      have i1 : (k : Int) < 2 := by omega
      go_wp2_with fail
      refine (n_open _ _ _ _ hnt).mono ?_
      rintro e wx ⟨rfl, rfl⟩
      go_wp2_with fail
      refine (n_close _ _ _ hnt).mono ?_
      rintro e wx ⟨rfl, rfl⟩
      go_wp2_with fail
      refine (n_get _ _ _ hnt).mono ?_
      rintro e w3 ⟨rfl, k3⟩
      have kA : Below wr.heap.size wr (w3.alloc (.cells #[.int .i64 0, .int .i64 0, .int .i64 0] 50)) := k3.alloc k3.size _
      have y1 := (kA.cell (p := ⟨W.heap.size, 1, none⟩) (lt_of_block bo)).trans x1
      have ntA := hnt.below kA
      go_wp2_with fail
      refine (n_count _ _ _ ntA).mono ?_
      generalize w3.alloc (.cells #[.int .i64 0, .int .i64 0, .int .i64 0] 50) = w4 at *
      rintro e wx ⟨rfl, rfl⟩
      go_wp2_with fail
      refine (n_all _ _ ntA).mono ?_
      rintro e wx ⟨rfl, rfl⟩
      go_wp2_with fail
      refine (n_inodes _ _ ntA).mono ?_
      rintro e w5 ⟨⟨a5, c5, rfl⟩, k5⟩
      have nt5 := ntA.below k5
      go_wp2_with fail
      refine (n_clear _ _ nt5).mono ?_
      rintro e w6 ⟨⟨a6, c6, rfl⟩, nt6, k6⟩
      go_wp2_with fail
      refine (n_fork _ _ nt6).mono ?_
      rintro e wx ⟨rfl, rfl⟩
      have k45 : Below wr.heap.size wr w5 := kA.trans (k5.mono kA.size)
      have bo5 := below_keeps k45 bo (lt_of_block bo)
      have bt5 := below_keeps k45 bt (lt_of_block bt)
      have bs5 := below_keeps k45 bs (lt_of_block bs)
      have kf : Below W.heap.size W w6 ∧ w6.heap[W.heap.size]? = some (.cells #[.int .i64 o.kind, .int .i64 o.n, .int .i64 o.flags] 38 (0, 0)) ∧ w6.heap[T]? = some (.cells zeroTab 47 (0, 0)) ∧ w6.heap[T + 1]? = some (.cells #[.pointer none, .pointer (some ⟨T, 0, none⟩)] 22 (0, 0)) := by
        have hb5 : Below W.heap.size W w5 := hbw.trans (k45.mono hbw.size)
        rcases HP.out with rfl | rfl
        · exact ⟨hb5.trans (k6.below hb5.size (fun i _ e => by cases e)), k6.keeps bo5 (fun e => by cases e), k6.keeps bt5 (fun e => by cases e), k6.keeps bs5 (fun e => by cases e)⟩
        · have hT : ∀ i, some (⟨T, 0, none⟩ : Addr) = some ⟨i, 0, none⟩ → i = T := fun i e => by cases e; rfl
          refine ⟨hb5.trans (k6.below hb5.size (fun i hi e => by have := hT i e; omega)), k6.keeps bo5 (fun e => by have := hT _ e; omega), ?_, k6.keeps bs5 (fun e => by have := hT _ e; omega)⟩
          rcases nt6 with e | ⟨b', e, hb'⟩
          · cases e
          · cases e; exact hb'
      have KF := Lib.hid kf
      clear kf k6 nt6 nt5 ntA k5 kA k3 y1 hnt hcell bo5 bt5 bs5 bo bt bs x1 x2 hbw k45
      go_wp2_with fail
      go_roundw
      case rel => exact ⟨k + 1, by omega, by go_num, KF.out⟩
      case measure => simp [intOf]; omega
    · go_wp2
      go_ret
      exact ⟨rfl, hbw⟩
end Go.Proofs.Ytbkblfhhhhkeaaa
