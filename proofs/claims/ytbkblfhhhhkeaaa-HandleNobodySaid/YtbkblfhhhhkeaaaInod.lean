/-
  Package handle: Inodes: a map counts, its keys are collected and sorted.
-/
import Derived.Test.YtbkblfhhhhkeaaaRefW3
import Derived.Test.YtbkblfhhhhkeaaaShelf
import Derived.Maps.RangeWalk
import Derived.Sort.OwnSorted
import Derived.Maps.OwnOps
import Derived.Maps.OwnSet
import Derived.Maps.Views
namespace Go.Proofs.Ytbkblfhhhhkeaaa
open Go.RowKit Go.Maps Go.Sort
set_option linter.unusedSimpArgs false
set_option linter.unusedVariables false

theorem law3 : Keyed Try.prog 3 := int_keyed Try.underlying3
theorem zero3 (w : World) : (zeroValue 3).run Try.prog w = .ok (.int .i64 0) w := by kernel_rfl
theorem grown_of_below {w w' : World} (h : Below w.heap.size w w') : w.grownBy w' none := ⟨h.os, h.tape, h.output, h.size, fun k hk _ => h.block k hk⟩

theorem chg_of_grown {w w' : World} {b : Nat} (h : w.grownBy w' (some b)) : Chg (· = b) w w' := ⟨h.os, h.tape, h.output, h.size, fun k hk hn => h.block k hk (by simpa using hn)⟩
/-- the map has the inodes of the first k -/
def HasTo {H : Type} (D : DataW H) (hs : List Hd) (k : Nat) : Prop := ∀ x : Int, Maps.has D (.int .i64 x) = true ↔ ∃ p ∈ hs.take k, p.2.1 = x
theorem hasTo_zero {H : Type} (hs : List Hd) : HasTo (H := H) (.map []) hs 0 := fun x => by simp [Maps.has_eq]
theorem hasTo_step {H : Type} {D : DataW H} {hs : List Hd} {k : Nat} (h : HasTo D hs k) (hD : IsMap D) (hk : k < hs.length) (d : DataW H) : HasTo (D.put (.int .i64 hs[k].2.1) d) hs (k + 1) := fun x => by
  rw [List.take_succ_eq_append_getElem hk]
  by_cases e : x = hs[k].2.1
  · subst e
    rw [has_put_same hD (by trivial)]
    exact ⟨fun _ => ⟨hs[k], List.mem_append_right _ (List.mem_singleton.2 rfl), rfl⟩, fun _ => rfl⟩
  · rw [has_put_other (by intro e'; injection e' with _ e'; exact e e')]
    rw [h x]
    simp only [List.mem_append, List.mem_singleton]
    constructor
    · rintro ⟨p, hp, q⟩; exact ⟨p, Or.inl hp, q⟩
    · rintro ⟨p, hp | rfl, q⟩
      · exact ⟨p, hp, q⟩
      · exact absurd q.symm e
/-- no key twice; a key is on the list just where the map has it and it is no longer to come -/
def CollI {H : Type} (D0 : DataW H) (left : Lit → Bool) (ss : List Int) : Prop := ss.Nodup ∧ ∀ x, x ∈ ss ↔ (Maps.has D0 (.int .i64 x) = true ∧ left (.int .i64 x) = false)
theorem collI_start {H : Type} (D0 : DataW H) : CollI D0 (Maps.has D0) [] := ⟨List.nodup_nil, fun x => by cases Maps.has D0 (.int .i64 x) <;> simp⟩
theorem collI_step {H : Type} {D0 : DataW H} {left : Lit → Bool} {ss : List Int} (h : CollI D0 left ss) {x : Int} {y : DataW H} (hlk : left (.int .i64 x) = true) (hat : ∀ zd, D0.atKey (.int .i64 x) zd = y) :
    CollI D0 (fun z => left z && !z.sameKey (.int .i64 x)) (ss ++ [x]) := by
  have hhas : Maps.has D0 (.int .i64 x) = true := has_true_of_atKey hat
  have hnew : x ∉ ss := fun hx => by have := ((h.2 x).1 hx).2; rw [hlk] at this; cases this
  refine ⟨List.nodup_append.2 ⟨h.1, by simp, fun a ha b hb => by simp at hb; subst hb; exact fun e => hnew (e ▸ ha)⟩, fun y => ?_⟩
  by_cases hy : y = x
  · subst hy; simp [hhas, Lit.sameKey]
  · simp [h.2 y, hy, Lit.sameKey]
theorem sort_rising {ss : List Int} (h : ss.Nodup) : Rising (ss.mergeSort fun x y => decide (x ≤ y)) := by
  have h1 := List.pairwise_mergeSort (le := fun x y : Int => decide (x ≤ y)) (by intro a b c; simp; omega) (by intro a b; simp; omega) ss
  have h2 : (ss.mergeSort fun x y => decide (x ≤ y)).Nodup := (List.mergeSort_perm ss _).nodup_iff.2 h
  unfold Rising
  refine (h1.and h2).imp ?_
  intro a b h
  have := h.1
  have := h.2
  simp at *
  omega
theorem sort_inos {H : Type} {D0 : DataW H} {hs : List Hd} {left : Lit → Bool} {ss : List Int} (hh : HasTo D0 hs hs.length) (hc : CollI D0 left ss) (hl : ∀ kl, left kl = false) :
    (ss.mergeSort fun x y => decide (x ≤ y)) = inosOf hs := by
  refine rising_ext (sort_rising hc.1) (inosOf_rising hs) (fun x => ?_)
  rw [List.mem_mergeSort, hc.2 x, inosOf_mem, hh x, List.take_length]
  simp [hl]
theorem ints_sorted {w : World} {g n : Nat} {os : Array Obj} {zs ts : List Int} {base cap : Nat} (hH : Holds (Value.int .i64) w g 0 zs.toArray) (hg : g < w.heap.size) (hl : ts.length = zs.length) (hb : base ≤ g) (hcap : zs.length ≤ cap) (hm : cap ≤ maxLen) :
    IntsAt (grow (putRow (Value.int .i64) (Sort.ahead w n) g 0 ts.toArray) os) (fun j => base ≤ j) (.slice (some ⟨g, 0, none⟩) ts.length cap) ts := by
  have h1 : Holds (Value.int .i64) (putRow (Value.int .i64) (Sort.ahead w n) g 0 ts.toArray) g 0 ts.toArray := holds_putRow _ _ _ _ zs.toArray ts.toArray (holds_ahead _ _ _ _ _ _ hH) (by simpa using hl)
  have h2 := holds_grow _ _ os g 0 ts.toArray (by simpa using hg) h1
  refine ⟨by simp [icells], _, _, rfl, by omega, hm, fun hn => ⟨g, 0, rfl, hb, by simp; omega, fun j u hj => ?_⟩⟩
  have hjl : j < ts.length := by
    rcases Nat.lt_or_ge j ts.length with h | h
    · exact h
    · rw [List.getElem?_eq_none (by simpa [icells] using h)] at hj; cases hj
  rw [icells_get hjl] at hj
  injection hj with hj
  have := (h2 j (by simpa using hjl)).1
  rw [this, ← hj]
  simp [hjl]
theorem grownBy_sortedI {w : World} {g n : Nat} {os : Array Obj} (d : Array Int) : w.grownBy (grow (putRow (Value.int .i64) (Sort.ahead w n) g 0 d) os) (some g) := by
  refine ⟨rfl, rfl, rfl, by simp, fun k hk hne => ?_⟩
  rw [heap_grow_old _ _ (by simpa using hk)]
  have : g ≠ k := fun e => hne (by rw [e])
  simp [putRow, mapBlock, Sort.ahead, Array.getElem?_modify, this]
theorem ranges_le {H : Type} {w : World} {P : Program} {k : TypeId} {R : Value → Option (DataW H × List MemPlace)} {b r n cnt : Nat} {D : DataW H} {left : Lit → Bool} (h : w.ranges P k R b r n D left cnt) : cnt ≤ n := by
  obtain ⟨es, clock, since, seen, c0, _, _, hn, _, _, _, hc, _⟩ := h
  have : (leftOf es seen).size ≤ es.size := by unfold leftOf; exact Array.size_filter_le
  omega
set_option maxRecDepth 100000 in
set_option maxHeartbeats 2000000 in
theorem hinodes_of {H : Type} (w : World) (p : Option Addr) (hs : List Hd) (h64 : hs.length ≤ 64) (hwf : ∀ q ∈ hs, 0 ≤ q.2.1 ∧ q.2.1 ≤ 9223372036854775807)
    (hall : ∀ W', Below w.heap.size w W' → Calls Try.prog 16 #[.pointer p] W' fun e w' => TellsRow W'.heap.size 50 3 hs.length (hcells hs) e w' ∧ Below W'.heap.size W' w') :
    Calls Try.prog 17 #[.pointer p] w fun e w' => (∃ a c, e = .returned (.slice a (inosOf hs).length c) ∧ IntsAt w' (fun j => w.heap.size ≤ j) (.slice a (inosOf hs).length c) (inosOf hs)) ∧ Below w.heap.size w w' := by
  obtain ⟨i0, hi, hz0, hz1, hz2⟩ := info_parts info3
  have hmm := @run_makeMap Try.prog
  have Hall := Lib.hid hall
  clear hall
  go_enter Try.func17, Try.ntmps17
  go_wp2_with fail
  refine (Hall.out _ ((Below.refl _ _).alloc (Nat.le_refl _) _)).mono ?_
  rintro e w1 ⟨⟨a1, cap1, rfl, r1⟩, k1⟩
  have hm1 := (World.ownsMap_made w Try.prog 3 (plainElem (H := H) Try.prog 3)).kept (grown_of_below k1) (by simp)
  have b1 : Below w.heap.size w w1 := ((Below.refl w.heap.size w).alloc (Nat.le_refl _) _).trans (k1.mono (by simp))
  have rlt : ∀ (k : Nat), k < hs.length → ∃ g, a1 = some ⟨g, 0, none⟩ ∧ w.heap.size < g ∧ g < w1.heap.size ∧ w1.cell? ⟨g, k * 3, none⟩ = some (.int .i64 hs[k]!.1) ∧ w1.cell? ⟨g, k * 3 + 1, none⟩ = some (.int .i64 hs[k]!.2.1) ∧ w1.cell? ⟨g, k * 3 + 2, none⟩ = some (.int .i64 hs[k]!.2.2) := fun k hk => by
    obtain ⟨g, e, hg, hgl, hc⟩ := ownsRow_some r1 (by omega)
    obtain ⟨c1, c2, c3⟩ := hcells_get hs k hk
    have e1 : hs[k]! = hs[k] := by simp [hk]
    rw [e1]
    exact ⟨g, e, by simp at hg; omega, hgl, hc _ _ c1, hc _ _ c2, hc _ _ c3⟩
  have Rlt := Lib.hid rlt
  clear rlt
  go_wp2_with fail
  go_loopw [12] (fun i wr => ∃ (k : Nat) (D : DataW H), k ≤ hs.length ∧ i = .int .i64 k ∧ wr.ownsMap Try.prog 3 (plainElem Try.prog 3) w.heap.size k D ∧ HasTo D hs k ∧ Below w.heap.size w wr ∧ Chg (· = w.heap.size) w1 wr) (fun i _ => hs.length - (intOf i).toNat)
  case atStart => exact ⟨0, .map [], by omega, rfl, hm1, hasTo_zero hs, b1, Chg.refl _ _⟩
  case round =>
    obtain ⟨k, D, hk, rfl, hown, hD, hbw, hgr⟩ := hrel
    by_cases hlt : k < hs.length
    · obtain ⟨g, rfl, g1, g2, x1, x2, x3⟩ := Rlt.out k hlt
      have e1 : hs[k]! = hs[k] := by simp [hlt]
      rw [e1] at x1 x2 x3
      clear e1
      have y1 := (hgr.cell (p := ⟨g, k * 3, none⟩) g2 (by simp only; omega)).trans x1
      have y2 := (hgr.cell (p := ⟨g, k * 3 + 1, none⟩) g2 (by simp only; omega)).trans x2
      have y3 := (hgr.cell (p := ⟨g, k * 3 + 2, none⟩) g2 (by simp only; omega)).trans x3
      have hwk := hwf _ (List.getElem_mem hlt)
      have hst := Lib.hid (fun d => hasTo_step hD hown.isMap hlt d)
      generalize hs[k].2.1 = x at *
      generalize hs[k].1 = x0 at *
      generalize hs[k].2.2 = z0 at *
      have hkey : keyOf Try.prog 3 (.int .i64 x) = some (.int .i64 x) := keyOf_int_mk Try.underlying3 (by simp [Lit.wf, IntKind.min, IntKind.max, IntKind.bits, IntKind.signed]; omega)
      have i0' : (0 : Int) ≤ (k : Int) := by omega
      have i1' : (k : Int) < (hs.length : Int) := by omega
      have hsz := hbw.size
      have hownA := hown.kept (World.grownBy_alloc wr (.cells #[.int .i64 x0, .int .i64 x, .int .i64 z0] 50) none) (by simp)
      have hbA := hbw.alloc hsz (.cells #[.int .i64 x0, .int .i64 x, .int .i64 z0] 50)
      have hgA := hgr.alloc (.cells #[.int .i64 x0, .int .i64 x, .int .i64 z0] 50)
      go_wp2_with (first
        | (at_lookup; refine wpList_lookup_own_int _ rfl _ _ 63 rfl 3 3 .i64 law3 Try.underlying63 Try.underlying3 (zero3 _) w.heap.size k _ rfl hownA _ _ rfl hkey ?_; intro c hat hwc)
        | (at_mapUpdate; refine wpList_mapUpdate_own _ rfl _ _ _ 63 rfl 3 3 law3 Try.underlying63 _ w.heap.size k _ rfl hownA (by unfold maxLen; omega) _ _ _ rfl rfl hkey _ [] (plainElem_int Try.underlying3 (wrap64_wf _)) ?_; intro w3 hown3 hgrow3))
      go_roundw
      case rel => exact ⟨k + 1, _, by omega, by go_num, hown3, hst.out _, hbA.trans ((chg_of_grown hgrow3).below (by have := hbA.size; omega) (fun i hi e => by omega)), hgA.trans (chg_of_grown hgrow3)⟩
      case measure => simp [intOf]; omega
    · obtain rfl : k = hs.length := by omega
      go_wp2_with (at_range; refine wpList_range_own _ rfl _ 63 rfl 3 3 law3 Try.underlying63 _ w.heap.size hs.length _ rfl hown ?_; intro w4 hrg4 hg4 hs4)
      have hr0 : w.heap.size < wr.heap.size := hown.lt
      have hRange : w.heap.size < wr.heap.size := hr0
      have b4 : Below w.heap.size w w4 := hbw.grown hg4 hbw.size (fun j hj => by cases hj)
      have hcnt := ranges_le hrg4
      have HS4 := Lib.hid hs4
      clear hs4 hgr hown Rlt hm1 k1 b1 r1 hg4
      generalize hC : Maps.size D = C0 at *
      clear hC
      go_frame
      clear hbw hr0
      generalize wr.heap.size = Rb at *
      clear wr
      go_loopw [6] (fun v w2 => ∃ (left : Lit → Bool) (cnt : Nat) (ss : List Int), w2.ranges Try.prog 3 (plainElem Try.prog 3) w.heap.size Rb hs.length D left cnt ∧ ss.length + cnt ≤ C0 ∧ w2.ownsRow (w.heap.size + 1) 3 1 v ss.length (ss.map (Value.int .i64)) ∧ CollI D left ss ∧ Below w.heap.size w w2) (fun _ w2 => w2.rangeLeft w.heap.size Rb)
      case atStart => exact ⟨_, _, [], hrg4, by simp, World.ownsRow_nil _ _ _ _, collI_start D, b4⟩
      case round =>
        obtain ⟨left, cnt, ss, hrg, hcs, hrow, hC, hnx⟩ := hrel
        go_wp2_with (at_next; refine wpList_next_ranges_ii _ rfl _ rfl 3 3 .i64 .i64 law3 Try.underlying3 Try.underlying3 w.heap.size Rb hs.length _ _ _ rfl hrg ?_ ?_)
        · intro hc0 hl0
          have hso := Lib.hid (sort_inos hD hC hl0)
          rcases hrow.2 with ⟨rfl, hnil⟩ | ⟨g, cap, cur, rfl, hbase, hb, h1, h2, h3, h4⟩
          · have hss : ss = [] := by simpa using hnil
            subst hss
            have e0 : inosOf hs = [] := by rw [← hso.out]; simp
            have E0 := Lib.hid e0
            clear e0 hso
            go_wp2_with fail
            refine (Try.slices_Sort_int_none _ _ _).mono ?_
            rintro e w' ⟨rfl, rfl⟩
            go_wp2_with fail
            go_ret
            rw [E0.out]
            exact ⟨⟨_, _, rfl, (SlAt.nil _ _ 3 _ _).rd⟩, hnx⟩
          · have hH : Holds (Value.int .i64) wr g 0 ss.toArray := by
              intro j hj
              have hj' : j < ss.length := by simpa using hj
              refine ⟨?_, by simp [World.frozen?, hb]⟩
              rw [cell_of_block hb, Nat.zero_add]
              have h5 : (cur.toList.take (ss.length * 1))[j]? = (ss.map (Value.int .i64))[j]? := by rw [h4]
              rw [List.getElem?_take, if_pos (by omega)] at h5
              rw [← Array.getElem?_toList, h5]
              simp [hj']
            have hgl := lt_of_block hb
            have hlen : ss.length = (inosOf hs).length := by rw [← hso.out]; simp
            have hfin := fun n os => ints_sorted (n := n) (os := os) (ts := inosOf hs) hH hgl hlen.symm (show w.heap.size ≤ g by omega) h1 h2
            have Hfin := Lib.hid hfin
            have Hlen := Lib.hid hlen
            clear hfin hlen
            go_wp2_with fail
            refine (Try.slices_Sort_int g 0 cap ss wr hH hgl (by omega)).mono ?_
            rw [hso.out]
            rintro e w' ⟨rfl, nn, os, rfl⟩
            go_wp2_with fail
            go_ret
            rw [Hlen.out]
            refine ⟨⟨_, _, rfl, Hfin.out _ _⟩, ?_⟩
            exact hnx.grown (grownBy_sortedI _) hnx.size (fun j hj => by cases hj; omega)
        · intro x c w5 cnt5 hwx hwc hlk hat hrg5 hlt5 hg5 hs5 hen
          have hrow5 := hrow.kept hg5 (Or.inr (row_ne_iter hrow hrg).symm)
          clear hs5
          go_wp2_with (at_builtin; go_must (refine wpList_append_own _ rfl _ _ 54 rfl (w.heap.size + 1) 3 i0 (.int .i64 0) 1 8 Try.underlying54 hi hz0 hz1 hz2 rfl (by decide) _ _ _ rfl (hrow5.alloc _) ⟨w5.heap.size, 0, none⟩ 1 1 [.int .i64 x] rfl rfl (news_at _ [.int .i64 x] _) (by simp [Value.oneCell']) (by unfold maxLen; omega) (by omega) (by have := hnx.size; have := hg5.size; simp; omega) ?_); intro v' w6 hown6 hg6 hnil6; go_frame)
          have hrg6 := (hrg5.alloc _).kept hg6 (row_ne_low hrow5 (by omega)) (row_ne_iter hrow5 hrg5)
          go_roundw
          case rel =>
            refine ⟨_, cnt5, ss ++ [x], hrg6, by simp; omega, by simpa using hown6, collI_step hC hlk hat, ?_⟩
            exact ((hnx.grown hg5 hnx.size (fun j hj => by cases hj; omega)).alloc (by have := hnx.size; have := hg5.size; omega) _).grown hg6 (by have := hnx.size; have := hg5.size; simp; omega) (fun j hj => by have := (hrow5.lt j hj).1; omega)
          case measure => rw [hrg6.left_eq, hrg.left_eq]; exact hlt5
end Go.Proofs.Ytbkblfhhhhkeaaa
