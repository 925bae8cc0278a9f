/-
  TreeNobody: the walk.
-/
import Derived.Test.YthmimbmlcihkaaaGreatT12
namespace Go.Proofs.YthmimbmlcihkaaaGreat
open Go.RowKit Go.Shelf
set_option linter.unusedSimpArgs false
set_option linter.unusedVariables false
set_option maxRecDepth 100000
attribute [local go_sem] Oper.semAt_some

set_option maxHeartbeats 1000000 in
theorem scan_nil_in (l b1 b2 b3 : Nat) (J : List (Below' 0) → World → Prop) (W : World) (h1 : W.cell? ⟨b1, 0, none⟩ = some (.pointer none)) (h0 : J [] W) :
    CallsIn Fence.wide 8 Tryz.prog 46 #[.func (.yield l) #[] #[], ptr b1, ptr b2, ptr b3] W fun e W' => (∃ v, e = .returned v) ∧ J [] W' := by
  unfold ptr
  refine callsIn_of_wp Tryz.func46 rfl trivial ?_ rfl
  simp only [Tryz.ntmps46, List.size_toArray, List.length_cons, List.length_nil, Nat.reduceAdd, Nat.reduceSub, Array.replicate_succ, Array.replicate_zero, List.push_toArray, List.append_toArray, List.nil_append, List.cons_append]
  gi_wp2
  refine ⟨trivial, ?_⟩
  refine (callsIn_wide.2 (made_nil W)).mono ?_
  rintro e w' ⟨rfl, rfl⟩
  gi_wp2
  go_end0
  exact ⟨⟨_, rfl⟩, h0⟩
theorem scan_stops0 (b1 b2 b3 n₀ : Nat) (enc : Below' 0 → Array Value) (w : World) (hb : b1 < n₀) (hn₀ : n₀ ≤ w.heap.size) (hc : w.cell? ⟨b1, 0, none⟩ = some (.pointer none)) :
    SeqStopsK Fence.wide 8 Tryz.prog 46 #[ptr b1, ptr b2, ptr b3] enc (Below n₀) (fun _ => True) (fun _ => False) 0 w := fun l J Jx W hW _ _ hY h0 => by
  have hc' := (hW.cell (p := ⟨b1, 0, none⟩) (Nat.lt_of_lt_of_le hb hn₀)).trans hc
  exact (scan_nil_in l b1 b2 b3 J W hc' h0).mono fun e W' ⟨he, hj⟩ => ⟨he, .inl ⟨[], trivial, hj⟩⟩
set_option maxHeartbeats 8000000 in
theorem nobody_any (w : World) (key value : ByteArray) : Calls Tryz.prog 7 #[.string key, .string value] w fun e w' => e = .returned (.bool true) ∧ Below w.heap.size w w' := by
  have k0 : Bl w (w.alloc (.cells #[.bool false] 4)) := (Bl.refl w).alloc _
  have q0 : (w.alloc (.cells #[.bool false] 4)).heap[w.heap.size]? = some (.cells #[.bool false] 4 (0, 0)) := block_new _ _
  have K0 := Lib.hid k0
  have Q0 := Lib.hid q0
  clear k0 q0
  refine (callsIn_wide (n := 9)).1 ?_
  refine callsIn_of_wp_marks Tryz.func7 rfl trivial ?_ rfl
  simp only [Tryz.ntmps7, List.size_toArray, List.length_cons, List.length_nil, Nat.reduceAdd, Nat.reduceSub, Array.replicate_succ, Array.replicate_zero, List.push_toArray, List.append_toArray, List.nil_append, List.cons_append]
  gi_wp2
  refine ⟨trivial, ?_⟩
  refine (callsIn_wide.2 (lives_any _)).mono ?_
  rintro e w1 ⟨rfl, k1⟩
  gi_wp2
  refine ⟨trivial, ?_⟩
  refine (callsIn_wide.2 (get_nil _ key)).mono ?_
  rintro e w2 ⟨rfl, k2⟩
  gi_wp2
  refine ⟨trivial, ?_⟩
  refine (callsIn_wide.2 (put_nil _ key value)).mono ?_
  rintro e w3 ⟨rfl, k3⟩
  gi_wp2
  refine ⟨trivial, ?_⟩
  refine (callsIn_wide.2 (del_nil _ key)).mono ?_
  rintro e w4 ⟨rfl, k4⟩
  gi_wp2
  refine ⟨trivial, ?_⟩
  refine (callsIn_wide.2 (count_nil _)).mono ?_
  rintro e w5 ⟨rfl, k5⟩
  gi_wp2
  refine ⟨trivial, ?_⟩
  refine (callsIn_wide.2 (place_nil _)).mono ?_
  rintro e w6 ⟨rfl, k6⟩
  gi_wp2
  refine ⟨trivial, ?_⟩
  refine (callsIn_wide.2 (sectors_nil _)).mono ?_
  rintro e w7 ⟨rfl, k7⟩
  gi_wp2
  refine ⟨trivial, ?_⟩
  refine (callsIn_wide.2 (scan_any _ _ (Or.inl rfl) _ _)).mono ?_
  rintro e w8 ⟨rfl, rfl⟩
  have K7 := Lib.hid (Bl.trans (Bl.trans (Bl.trans (Bl.trans (Bl.trans (Bl.trans k1 k2) k3) k4) k5) k6) k7)
  have K8 : Hid (Bl w7 (((w7.alloc (.cells #[.pointer none] 26)).alloc (.cells #[.string key] 9)).alloc (.cells #[.string value] 9))) := (((Bl.refl _).alloc _).alloc _).alloc _
  have R8 : Hid ((((w7.alloc (.cells #[.pointer none] 26)).alloc (.cells #[.string key] 9)).alloc (.cells #[.string value] 9)).heap[w7.heap.size]? = some (.cells #[.pointer none] 26 (0, 0))) := block_old _ (block_old _ (block_new _ _))
  clear k1 k2 k3 k4 k5 k6 k7
  gi_wp2
  generalize ((w7.alloc (.cells #[.pointer none] 26)).alloc (.cells #[.string key] 9)).alloc (.cells #[.string value] 9) = W0 at *
  have r1 := R8.out
  have hr1 := lt_of_block r1
  refine wpIn_rangeFunc_ownH rfl (by omega) (gf := 46) (lb := #[ptr w7.heap.size, ptr (w7.heap.size + 1), ptr (w7.heap.size + 2)]) rfl trivial (enters_of Tryz.func46 (by kernel_rfl) rfl)
    (scan_stops0 w7.heap.size (w7.heap.size + 1) (w7.heap.size + 2) W0.heap.size (fun x : Below' 0 => #[.int .i64 (x.1 : Int), .int .i64 0]) W0 hr1 (Nat.le_refl _) (by rw [cell_of_block r1]; rfl)) belowK_t (belowK_b (Nat.le_refl _)) (Below.refl _ _) (fun _ => rfl)
    (fun pre W => Below W0.heap.size W0 W)
    (fun cd pre W => False)
    ?oI ?oIx (Below.refl _ _)
    (fun x a' W => False)
    ?oA ?assign ?body ?done ?stop
  case oI => exact fun s A B row hs hg hr => ownFrom_below (β := Unit) (Nat.le_refl _) (Nat.le_refl _) () A B row hs hg hr
  case oIx => exact fun cd pre A B row hs hg hr => hs
  case oA => exact fun x a' u A B row hs hg hr => hs
  case assign => exact fun l pre x W K hs hK => absurd x.2 (by omega)
  case body => exact fun l pre x a' W h1 h2 h3 h4 h5 => h4.elim
  case stop => exact fun D cd pre W hD h1 h2 => h1.elim
  case done =>
    rintro D xs W hD - hbw hK
    have HBW := Lib.hid hbw
    have HD := Lib.hid hD
    have HKD := Lib.hid hK
    clear hbw hD hK r1 hr1
    gi_wp2
    refine ⟨trivial, ?_⟩
    refine (callsIn_wide.2 (lives_any _)).mono ?_
    rintro e w9 ⟨rfl, k9⟩
    gi_wp2
    refine ⟨trivial, ?_⟩
    refine (callsIn_wide.2 (check_nil _)).mono ?_
    rintro e w10 ⟨rfl, k10⟩
    gi_wp2
    refine ⟨trivial, ?_⟩
    refine (callsIn_wide.2 (root_nil _)).mono ?_
    rintro e w11 ⟨rfl, k11⟩
    gi_wp2
    refine ⟨trivial, ?_⟩
    refine (callsIn_wide.2 (dirty_nil _)).mono ?_
    rintro e w12 ⟨rfl, k12⟩
    gi_wp2
    refine ⟨trivial, ?_⟩
    refine (callsIn_wide.2 (height_nil _)).mono ?_
    rintro e w13 ⟨rfl, k13⟩
    have KW : Bl W w13 := Bl.trans (Bl.trans (Bl.trans (Bl.trans k9 k10) k11) k12) k13
    have K03 : Bl (w.alloc (.cells #[.bool false] 4)) w13 := Bl.trans (Bl.trans (Bl.trans K7.out K8.out) HBW.out) KW
    have q3 := below_keeps K03 Q0.out (lt_of_block Q0.out)
    have c3 : w13.cell? ⟨w.heap.size, 0, none⟩ = some (.bool false) := by rw [cell_of_block q3]; rfl
    have f3 := free_of_block q3 0
    have hl3 : w.heap.size < w13.heap.size := lt_of_block q3
    have hKD := below_keeps KW HKD.out (lt_of_block HKD.out)
    have Q3 := Lib.hid q3
    have K3 := Lib.hid (Bl.trans K0.out K03)
    have HD3 : Hid (w.heap.size < D) := by
      have e1 := HD.out
      have e2 := lt_of_block Q0.out
      have e3 := (Bl.trans K7.out K8.out).size
      show _ < _
      omega
    have HKD3 := Lib.hid hKD
    clear k9 k10 k11 k12 k13 KW K03 q3 hKD
    gi_wp2
    have hlt := HD3.out
    have kc1 : Chg (fun i => i = w.heap.size) w13 (w13.setCell ⟨w.heap.size, 0, none⟩ (.bool true)) := Chg.setCell (Chg.refl (fun i => i = w.heap.size) w13) ⟨w.heap.size, 0, none⟩ (.bool true) (fun _ => rfl)
    have hK' := kc1.keeps HKD3.out (fun e => by have e : D = w.heap.size := e; omega)
    have bR : (w13.setCell ⟨w.heap.size, 0, none⟩ (.bool true)).heap[w.heap.size]? = some (.cells #[.bool true] 4 (0, 0)) := block_set Q3.out 0 (.bool true)
    generalize w13.setCell ⟨w.heap.size, 0, none⟩ (.bool true) = Wf at *
    have kp : Chg (fun i => i = D) Wf (Wf.putObj D (.deferred none)) := ⟨rfl, rfl, rfl, by simp [World.putObj], fun k hk hn => World.putObj_heap_other (fun e => hn e)⟩
    have kall : Chg (fun i => i = w.heap.size ∨ i = D) w13 (Wf.putObj D (.deferred none)) := Chg.trans (kc1.mono (fun i _ e => Or.inl e)) (kp.mono (fun i _ e => Or.inr e))
    have pR := kp.keeps bR (fun e => by have e : w.heap.size = D := e; omega)
    have r1 : (Wf.putObj D (.deferred none)).cell? ⟨w.heap.size, 0, none⟩ = some (.bool true) := by rw [cell_of_block pR]; rfl
    have hbl := K3.out.chg kall (fun i hi e => by omega)
    refine ⟨by simp, .inl ⟨_, _, rfl, run_takeDeferred hK', ?_⟩⟩
    refine ⟨.bool true, ?_, ⟨rfl, hbl⟩⟩
    simp [results, Tryz.f7, go_sem, r1]
theorem nobody_gen (a0 : ByteArray) (_ : a0.size ≤ maxLen) (a1 : ByteArray) (_ : a1.size ≤ maxLen) (W : World) : Calls Tryz.prog 7 #[.string a0, .string a1] W fun e w' => e = .returned (.bool true) ∧ Below W.heap.size W w' := nobody_any W a0 a1
end Go.Proofs.YthmimbmlcihkaaaGreat
