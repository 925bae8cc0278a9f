/-
  sameInts and sameHandles of the same; the document's Inodes.
-/
import Derived.Test.YtbkblfhhhhkeaaaRefW2
import Derived.Deep.RegionHeld3
import Derived.Deep.QuietTactic
import Derived.BigQuiet
namespace Go.Proofs.Ytbkblfhhhhkeaaa
open Go.RowKit
set_option linter.unusedSimpArgs false
set_option linter.unusedVariables false

def icells (l : List Int) : List Value := l.map (Value.int .i64)
theorem icells_len (l : List Int) : (icells l).length = l.length := by simp [icells]
theorem icells_get {l : List Int} {k : Nat} (h : k < l.length) : (icells l)[k]? = some (.int .i64 l[k]) := by simp [icells, h]
theorem icells_one (l : List Int) : ∀ u ∈ icells l, u.oneCell' = true := by
  intro u hu
  simp only [icells, List.mem_map] at hu
  obtain ⟨x, _, rfl⟩ := hu
  rfl
def IntsAt (w : World) (own : Nat → Prop) (v : Value) (l : List Int) : Prop := RdAt w own 1 v l.length (icells l)
theorem info3 : (Try.prog.info? 3).map (fun i => (i.zero, i.size, i.bytes)) = some (some (.int .i64 0), 1, 8) := by kernel_rfl

set_option maxHeartbeats 400000 in
theorem same_ints (w : World) (own own2 : Nat → Prop) (v u : Value) (l : List Int) (hl : IntsAt w own v l) (hm : IntsAt w own2 u l) :
    Calls Try.prog 27 #[v, u] w fun e w' => e = .returned (.bool true) ∧ Below w.heap.size w w' := by
  obtain ⟨a, cap, rfl, hmax⟩ := RdAt.shape hl
  obtain ⟨a2, cap2, rfl, hmax2⟩ := RdAt.shape hm
  unfold maxLen at hmax hmax2
  go_enter Try.func27, Try.ntmps27
  go_wp2
  go_loopw [13] (fun i wr => ∃ k : Nat, k ≤ l.length ∧ i = .int .i64 k ∧ Below w.heap.size w wr) (fun i _ => l.length - (intOf i).toNat)
  case atStart => exact ⟨0, by omega, rfl, Below.refl _ _⟩
  case round =>
    obtain ⟨k, hk, rfl, hbw⟩ := hrel
    by_cases hlt : k < l.length
    · obtain ⟨g, off, rfl, _, hg, hc⟩ := (RdAt.below hl hbw).get (by omega)
      obtain ⟨g2, off2, rfl, _, hg2, hc2⟩ := (RdAt.below hm hbw).get (by omega)
      have c1 := hc k _ (icells_get hlt)
      have c2 := hc2 k _ (icells_get hlt)
      have i0 : (0 : Int) ≤ (k : Int) := by omega
      have i1 : (k : Int) < (l.length : Int) := by omega
      clear hc hc2
      go_wp2
      go_region
      all_goals go_wp2
      all_goals go_roundw
      all_goals first | (case rel => exact ⟨k + 1, by omega, by go_num, hbw.drew⟩) | (case measure => simp [intOf]; omega)
    · obtain rfl : k = l.length := by omega
      go_wp2
      go_ret
      exact ⟨rfl, hbw⟩

set_option maxHeartbeats 1000000 in
theorem same_handles (w : World) (own own2 : Nat → Prop) (v u : Value) (l : List Hd) (hn : l.length ≤ 64) (hl : RdAt w own 3 v l.length (hcells l)) (hm : RdAt w own2 3 u l.length (hcells l)) :
    Calls Try.prog 26 #[v, u] w fun e w' => e = .returned (.bool true) ∧ Below w.heap.size w w' := by
  obtain ⟨a, cap, rfl, hmax⟩ := RdAt.shape hl
  obtain ⟨a2, cap2, rfl, hmax2⟩ := RdAt.shape hm
  unfold maxLen at hmax hmax2
  go_enter Try.func26, Try.ntmps26
  go_wp2
  go_loopw [13] (fun i wr => ∃ k : Nat, k ≤ l.length ∧ i = .int .i64 k ∧ Below w.heap.size w wr) (fun i _ => l.length - (intOf i).toNat)
  case atStart => exact ⟨0, by omega, rfl, Below.refl _ _⟩
  case round =>
    obtain ⟨k, hk, rfl, hbw⟩ := hrel
    by_cases hlt : k < l.length
    · obtain ⟨g, off, rfl, _, hg, hc⟩ := (RdAt.below hl hbw).get (by omega)
      obtain ⟨g2, off2, rfl, _, hg2, hc2⟩ := (RdAt.below hm hbw).get (by omega)
      obtain ⟨e1, e2, e3⟩ := hcells_get l k hlt
      have c1 : wr.cell? ⟨g, off + k * 3, none⟩ = some _ := hc _ _ e1
      have c2 : wr.cell? ⟨g, off + k * 3 + 1, none⟩ = some _ := hc _ _ e2
      have c3 : wr.cell? ⟨g, off + k * 3 + 2, none⟩ = some _ := hc _ _ e3
      have d1 : wr.cell? ⟨g2, off2 + k * 3, none⟩ = some _ := hc2 _ _ e1
      have d2 : wr.cell? ⟨g2, off2 + k * 3 + 1, none⟩ = some _ := hc2 _ _ e2
      have d3 : wr.cell? ⟨g2, off2 + k * 3 + 2, none⟩ = some _ := hc2 _ _ e3
      have i0 : (0 : Int) ≤ (k : Int) := by omega
      have i1 : (k : Int) < (l.length : Int) := by omega
      clear hc hc2 e1 e2 e3
      go_wp2
      go_region
      all_goals go_wp2
      all_goals go_roundw
      all_goals first | (case rel => exact ⟨k + 1, by omega, by go_num, hbw.drew⟩) | (case measure => simp [intOf]; omega)
    · obtain rfl : k = l.length := by omega
      go_wp2
      go_ret
      exact ⟨rfl, hbw⟩

theorem below_drewN {B : Nat} {a b : World} (h : Below B a b) (n : Nat) : Below B a (b.drewN n) := h.trans ⟨rfl, rfl, rfl, Nat.le_refl _, fun _ _ => rfl⟩
theorem exists_pos (L : List Int) (x : Int) : ∃ n, n ≤ L.length ∧ (∀ j (h : j < L.length), j < n → L[j] < x) ∧ (∀ h : n < L.length, ¬ L[n] < x) := by
  induction L with
  | nil => exact ⟨0, by simp, by simp, by simp⟩
  | cons a L ih =>
    by_cases ha : a < x
    · obtain ⟨n, h1, h2, h3⟩ := ih
      refine ⟨n + 1, by simpa using h1, fun j hj hjn => ?_, fun h => by simpa using h3 (by simpa using h)⟩
      cases j with
      | zero => simpa using ha
      | succ j => simpa using h2 j (by simpa using hj) (by omega)
    · exact ⟨0, by simp, fun j _ h => by omega, fun _ => by simpa using ha⟩
set_option maxHeartbeats 2000000 in
theorem rinodes_any (w : World) (r : Nat) (P : Nat → Prop) (hs : List Hd) (a : Option Addr) (cap : Nat) (h : RefAt w r P hs a cap) :
    Calls Try.prog 28 #[.pointer (some ⟨r, 0, none⟩)] w fun e w' => (∃ a c, e = .returned (.slice a (inosOf hs).length c) ∧ IntsAt w' (fun j => w.heap.size ≤ j) (.slice a (inosOf hs).length c) (inosOf hs)) ∧ Below w.heap.size w w' := by
  obtain ⟨i0, hi, hz0, hz1, hz2⟩ := info_parts info3
  have c0 := h.list
  have hlen := h.len
  go_enter Try.func28, Try.ntmps28
  go_wp2_with fail
  go_loopw [3, 13] (fun v i wr => ∃ k : Nat, k ≤ hs.length ∧ i = .int .i64 k ∧ SlAt wr (fun j => w.heap.size ≤ j) 3 1 v (inosOf (hs.take k)).length (icells (inosOf (hs.take k))) ∧ Below w.heap.size w wr) (fun _ i _ => hs.length - (intOf i).toNat)
  case atStart => exact ⟨0, by omega, rfl, by simpa [inosOf, icells] using SlAt.nil _ _ _ _ _, Below.refl _ _⟩
  case round =>
    obtain ⟨k, hk, rfl, hsl, hbw⟩ := hrel
    by_cases hlt : k < hs.length
    · obtain ⟨g, off, rfl, _, _, d1, d2, d3⟩ := (h.below hbw).get hlt
      have hLk := Lib.hid (inosOf_take hs k hlt)
      have hL64 : (inosOf (hs.take k)).length ≤ 64 := by
        have := inosOf_len (hs.take k)
        simp only [List.length_take] at this
        omega
      generalize inosOf (hs.take k) = L at *
      generalize hs[k].2.1 = x at *
      generalize hs[k].1 = x0 at *
      generalize hs[k].2.2 = x2 at *
      have i0' : (0 : Int) ≤ (k : Int) := by omega
      have i1' : (k : Int) < (hs.length : Int) := by omega
      have hsz := hbw.size
      obtain ⟨av, cv, rfl⟩ := hsl.shape
      obtain ⟨n, n1, n2, n3⟩ := exists_pos L x
      have N2 := Lib.hid n2
      have N3 := Lib.hid n3
      clear n2 n3
      have kb : Below wr.heap.size wr (wr.alloc (.cells #[.int .i64 x0, .int .i64 x, .int .i64 x2] 50)) := (Below.refl _ _).alloc (Nat.le_refl _) _
      have bx : (wr.alloc (.cells #[.int .i64 x0, .int .i64 x, .int .i64 x2] 50)).heap[wr.heap.size]? = some (.cells #[.int .i64 x0, .int .i64 x, .int .i64 x2] 50 (0, 0)) := block_new _ _
      have sb : wr.heap.size < (wr.alloc (.cells #[.int .i64 x0, .int .i64 x, .int .i64 x2] 50)).heap.size := by simp
      have sl1 := hsl.below kb
      have kwb := hbw.alloc hsz (.cells #[.int .i64 x0, .int .i64 x, .int .i64 x2] 50)
      go_wp2_with fail
      generalize wr.alloc (.cells #[.int .i64 x0, .int .i64 x, .int .i64 x2] 50) = wb at *
      clear hsl d1 d2 d3 kb hbw
      generalize wr.heap.size = Bx at *
      clear wr
      go_loopw [6] (fun u w2 => ∃ j : Nat, j ≤ n ∧ u = .int .i64 j ∧ Below wb.heap.size wb w2) (fun u _ => n - (intOf u).toNat)
      case atStart => exact ⟨0, by omega, rfl, Below.refl _ _⟩
      case round =>
        obtain ⟨j, hj, rfl, hb2⟩ := hrel
        have bx2 := below_keeps hb2 bx sb
        have y1 : wr.cell? ⟨Bx, 1, none⟩ = some (.int .i64 x) := (cell_of_block bx2 1).trans rfl
        have sl2 := sl1.below hb2
        have j0 : (0 : Int) ≤ (j : Int) := by omega
        by_cases hjn : j < n
        · have hjl : j < L.length := by omega
          obtain ⟨g3, off3, rfl, _, _, hc3⟩ := sl2.rd.get (by omega)
          have z1 := hc3 j _ (icells_get hjl)
          have zlt := N2.out j hjl hjn
          have j1 : (j : Int) < (L.length : Int) := by omega
          clear hc3 sl1 sl2 bx2
          go_wp2_with fail
          go_quiet (fail)
          go_wp2
          go_roundw
          case rel => exact ⟨j + 1, by omega, by go_num, below_drewN hb2 _⟩
          case measure => simp [intOf]; omega
        · obtain rfl : j = n := by omega
          by_cases hjl : j < L.length
          · obtain ⟨g3, off3, rfl, _, hg3, hc3⟩ := sl2.rd.get (by omega)
            have z1 := hc3 j _ (icells_get hjl)
            have zge := N3.out hjl
            have j1 : (j : Int) < (L.length : Int) := by omega
            have hat := insIno_at L x j n1 N2.out (fun h => by have := N3.out h; omega)
            by_cases he : L[j] = x
            · have he' : (L[j] == x) = true := by simp [he]
              rw [if_pos ⟨hjl, he⟩] at hat
              have HA := Lib.hid hat
              clear hat he hc3
              go_wp2_with fail
              go_quiet (fail)
              go_wp2_with fail
              go_quiet (fail)
              go_wp2
              go_roundw
              case rel =>
                refine ⟨k + 1, by omega, by go_num, ?_, kwb.trans ((below_drewN hb2 _).mono kwb.size)⟩
                rw [hLk.out, HA.out]
                exact sl2.below (below_drewN (Below.refl _ _) _)
              case measure => simp [intOf]; omega
            · have he' : (L[j] == x) = false := by simp [he]
              rw [if_neg (fun e => he e.2)] at hat
              have HA := Lib.hid hat
              clear hat he hc3
              obtain ⟨a1, e1, hs1, r1⟩ := slice_to Try.underlying54 hi hz1 sl2.rd (k := j) n1
              obtain ⟨a2, e2, hs2, r2⟩ := slice_from Try.underlying54 hi hz1 sl2.rd (k := j) n1
              rw [Nat.mul_one] at r1 r2
              go_wp2_with fail
              go_quiet (fail)
              have kp : Below wr.heap.size wr (wr.drewN nq) := below_drewN (Below.refl _ _) _
              have y1p : (wr.drewN nq).cell? ⟨Bx, 1, none⟩ = some (.int .i64 x) := (kp.cell (p := ⟨Bx, 1, none⟩) (lt_of_block bx2)).trans y1
              have z1p := (kp.cell (p := ⟨g3, off3 + j, none⟩) hg3).trans z1
              generalize wr.drewN nq = wp at *
              go_wp2_with fail
              go_quiet (fail)
              have kq : Below wr.heap.size wr (wp.drewN nq) := below_drewN kp _
              have bxq := below_keeps kq bx2 (lt_of_block bx2)
              generalize wp.drewN nq = wq at *
              have HS : Hid (∀ w', Below wr.heap.size wr w' → w'.cell? ⟨Bx, 1, none⟩ = some (.int .i64 x)) := fun w' kk => (kk.cell (p := ⟨Bx, 1, none⟩) (lt_of_block bx2)).trans y1
              have one1 : ∀ u ∈ (icells L).take j, u.oneCell' = true := fun u hu => icells_one L u (List.mem_of_mem_take hu)
              have one2 : ∀ u ∈ (icells L).drop j, u.oneCell' = true := fun u hu => icells_one L u (List.mem_of_mem_drop hu)
              have One1 := Lib.hid one1
              have One2 := Lib.hid one2
              clear one1 one2
              go_wp2_with (at_builtin; go_must (refine wpList_append_sl rfl (.tmp 45) (.tmp 48) 54 rfl 3 i0 (.int .i64 0) 1 8 Try.underlying54 hi hz0 hz1 hz2 rfl (fun q => wr.heap.size ≤ q) _ 0 [] rfl (SlAt.nil _ _ _ _ _) (fun q => w.heap.size ≤ q) _ j ((icells L).take j) rfl ?_ One1.out ?_ ?_ ?_); exact r1.below (kq.alloc kq.size _); (unfold maxLen; omega); omega; intro v4 w4 hs4 hc4; rw [Nat.zero_add, List.nil_append] at hs4; obtain ⟨a4, cap4, rfl⟩ := hs4.shape)
              have kqs := kq.size
              have k4 : Below wr.heap.size wr w4 := (kq.alloc kqs _).trans (hc4.below (by simp; omega) (fun i hi e => by omega))
              have hs4' := hs4.mono (own2 := fun q => wr.heap.size ≤ q) (fun q _ e => by
                rcases e with e | e
                · exact e
                · simp at e; omega)
              have k4s := k4.size
              have y4 := HS.out w4.drew k4.drew
              clear hs4 hc4
              go_region_held3 (fun w' => w'.cell? ⟨Bx, 1, none⟩ = some (.int .i64 x)) (first | exact y4 | exact HS.out _ (k4.drew.alloc k4s _) | exact HS.out _ k5 | exact HS.out _ k6) ((first | (refine step_append_sl rfl (.tmp 50) (.tmp 53) 54 rfl 3 i0 (.int .i64 0) 1 8 Try.underlying54 hi hz0 hz1 hz2 rfl (fun q => wr.heap.size ≤ q) _ j ((icells L).take j) rfl ?_ (fun q => q = w4.heap.size) _ 1 [.int .i64 x] rfl ?_ ?_ ?_ ?_ ?_; exact hs4'.below ((Below.refl _ _).drew.alloc (Nat.le_refl _) _); exact rd_newG rfl rfl (by unfold maxLen; omega); simp [Value.oneCell']; (unfold maxLen; omega); omega; intro v5 w5 hs5 hc5; obtain ⟨a5, cap5, rfl⟩ := hs5.shape; (have k5 : Below wr.heap.size wr w5 := (k4.drew.alloc k4s _).trans (hc5.below (by simp; omega) (fun i hi e => by omega))); (have k5s := k5.size); (have hs5' := hs5.mono (own2 := fun q => wr.heap.size ≤ q) (fun q _ e => by rcases e with e | e; exact e; simp at e; omega))) | (refine step_append_sl rfl (.tmp 54) (.tmp 57) 54 rfl 3 i0 (.int .i64 0) 1 8 Try.underlying54 hi hz0 hz1 hz2 rfl (fun q => wr.heap.size ≤ q) (.slice a5 (j + 1) cap5) (j + 1) ((icells L).take j ++ [.int .i64 x]) rfl hs5' (fun q => w.heap.size ≤ q) (.slice a2 (L.length - j) e2) (L.length - j) ((icells L).drop j) rfl (r2.below k5) One2.out (by unfold maxLen; omega) (by omega) ?_; intro v6 w6 hs6 hc6; obtain ⟨a6, cap6, rfl⟩ := hs6.shape; (have k6 : Below wr.heap.size wr w6 := k5.trans (hc6.below k5s (fun i hi e => by omega))))))
              have kb6 : Below wb.heap.size wb w6 := hb2.trans (k6.mono hb2.size)
              have el : (insIno L x).length = j + 1 + (L.length - j) := by rw [HA.out]; simp; omega
              have ec : icells (insIno L x) = (icells L).take j ++ [.int .i64 x] ++ (icells L).drop j := by rw [HA.out]; simp [icells, List.map_take, List.map_drop]
              have hs7 : SlAt w6 (fun q => w.heap.size ≤ q) 3 1 (.slice a6 (j + 1 + (L.length - j)) cap6) (insIno L x).length (icells (insIno L x)) := by
                rw [el, ec]
                refine hs6.mono (fun q _ e => ?_)
                have := kwb.size
                have := hb2.size
                rcases e with e | e <;> omega
              clear el ec hs6 hc6 k5 k5s hs5 hc5 hs5' hs4' y4 y1
              go_wp2
              go_roundw
              case rel =>
                refine ⟨k + 1, by omega, by go_num, ?_, kwb.trans (kb6.mono kwb.size)⟩
                rw [hLk.out]
                exact hs7
              case measure => simp [intOf]; omega
          · have j1 : ¬ (j : Int) < (L.length : Int) := by omega
            have jd : decide ((j : Int) < (L.length : Int)) = false := by simp; omega
            have hat := insIno_at L x j n1 N2.out (fun h => by have := N3.out h; omega)
            rw [if_neg (fun e => hjl e.1)] at hat
            have HA := Lib.hid hat
            clear hat
            obtain ⟨a1, e1, hs1, r1⟩ := slice_to Try.underlying54 hi hz1 sl2.rd (k := j) n1
            obtain ⟨a2, e2, hs2, r2⟩ := slice_from Try.underlying54 hi hz1 sl2.rd (k := j) n1
            rw [Nat.mul_one] at r1 r2
            go_wp2_with fail
            go_quiet (fail)
            have kp : Below wr.heap.size wr (wr.drewN nq) := below_drewN (Below.refl _ _) _
            have y1p : (wr.drewN nq).cell? ⟨Bx, 1, none⟩ = some (.int .i64 x) := (kp.cell (p := ⟨Bx, 1, none⟩) (lt_of_block bx2)).trans y1
            generalize wr.drewN nq = wp at *
            go_wp2_with fail
            go_quiet (fail)
            have kq : Below wr.heap.size wr (wp.drewN nq) := below_drewN kp _
            have bxq := below_keeps kq bx2 (lt_of_block bx2)
            generalize wp.drewN nq = wq at *
            have HS : Hid (∀ w', Below wr.heap.size wr w' → w'.cell? ⟨Bx, 1, none⟩ = some (.int .i64 x)) := fun w' kk => (kk.cell (p := ⟨Bx, 1, none⟩) (lt_of_block bx2)).trans y1
            have one1 : ∀ u ∈ (icells L).take j, u.oneCell' = true := fun u hu => icells_one L u (List.mem_of_mem_take hu)
            have one2 : ∀ u ∈ (icells L).drop j, u.oneCell' = true := fun u hu => icells_one L u (List.mem_of_mem_drop hu)
            have One1 := Lib.hid one1
            have One2 := Lib.hid one2
            clear one1 one2
            go_wp2_with (at_builtin; go_must (refine wpList_append_sl rfl (.tmp 45) (.tmp 48) 54 rfl 3 i0 (.int .i64 0) 1 8 Try.underlying54 hi hz0 hz1 hz2 rfl (fun q => wr.heap.size ≤ q) _ 0 [] rfl (SlAt.nil _ _ _ _ _) (fun q => w.heap.size ≤ q) _ j ((icells L).take j) rfl ?_ One1.out ?_ ?_ ?_); exact r1.below (kq.alloc kq.size _); (unfold maxLen; omega); omega; intro v4 w4 hs4 hc4; rw [Nat.zero_add, List.nil_append] at hs4; obtain ⟨a4, cap4, rfl⟩ := hs4.shape)
            have kqs := kq.size
            have k4 : Below wr.heap.size wr w4 := (kq.alloc kqs _).trans (hc4.below (by simp; omega) (fun i hi e => by omega))
            have hs4' := hs4.mono (own2 := fun q => wr.heap.size ≤ q) (fun q _ e => by
              rcases e with e | e
              · exact e
              · simp at e; omega)
            have k4s := k4.size
            have y4 := HS.out w4.drew k4.drew
            clear hs4 hc4
            go_region_held3 (fun w' => w'.cell? ⟨Bx, 1, none⟩ = some (.int .i64 x)) (first | exact y4 | exact HS.out _ (k4.drew.alloc k4s _) | exact HS.out _ k5 | exact HS.out _ k6) ((first | (refine step_append_sl rfl (.tmp 50) (.tmp 53) 54 rfl 3 i0 (.int .i64 0) 1 8 Try.underlying54 hi hz0 hz1 hz2 rfl (fun q => wr.heap.size ≤ q) _ j ((icells L).take j) rfl ?_ (fun q => q = w4.heap.size) _ 1 [.int .i64 x] rfl ?_ ?_ ?_ ?_ ?_; exact hs4'.below ((Below.refl _ _).drew.alloc (Nat.le_refl _) _); exact rd_newG rfl rfl (by unfold maxLen; omega); simp [Value.oneCell']; (unfold maxLen; omega); omega; intro v5 w5 hs5 hc5; obtain ⟨a5, cap5, rfl⟩ := hs5.shape; (have k5 : Below wr.heap.size wr w5 := (k4.drew.alloc k4s _).trans (hc5.below (by simp; omega) (fun i hi e => by omega))); (have k5s := k5.size); (have hs5' := hs5.mono (own2 := fun q => wr.heap.size ≤ q) (fun q _ e => by rcases e with e | e; exact e; simp at e; omega))) | (refine step_append_sl rfl (.tmp 54) (.tmp 57) 54 rfl 3 i0 (.int .i64 0) 1 8 Try.underlying54 hi hz0 hz1 hz2 rfl (fun q => wr.heap.size ≤ q) (.slice a5 (j + 1) cap5) (j + 1) ((icells L).take j ++ [.int .i64 x]) rfl hs5' (fun q => w.heap.size ≤ q) (.slice a2 (L.length - j) e2) (L.length - j) ((icells L).drop j) rfl (r2.below k5) One2.out (by unfold maxLen; omega) (by omega) ?_; intro v6 w6 hs6 hc6; obtain ⟨a6, cap6, rfl⟩ := hs6.shape; (have k6 : Below wr.heap.size wr w6 := k5.trans (hc6.below k5s (fun i hi e => by omega))))))
            have kb6 : Below wb.heap.size wb w6 := hb2.trans (k6.mono hb2.size)
            have el : (insIno L x).length = j + 1 + (L.length - j) := by rw [HA.out]; simp; omega
            have ec : icells (insIno L x) = (icells L).take j ++ [.int .i64 x] ++ (icells L).drop j := by rw [HA.out]; simp [icells, List.map_take, List.map_drop]
            have hs7 : SlAt w6 (fun q => w.heap.size ≤ q) 3 1 (.slice a6 (j + 1 + (L.length - j)) cap6) (insIno L x).length (icells (insIno L x)) := by
              rw [el, ec]
              refine hs6.mono (fun q _ e => ?_)
              have := kwb.size
              have := hb2.size
              rcases e with e | e <;> omega
            clear el ec hs6 hc6 k5 k5s hs5 hc5 hs5' hs4' y4 y1
            go_wp2
            go_roundw
            case rel =>
              refine ⟨k + 1, by omega, by go_num, ?_, kwb.trans (kb6.mono kwb.size)⟩
              rw [hLk.out]
              exact hs7
            case measure => simp [intOf]; omega
    · obtain rfl : k = hs.length := by omega
      rw [List.take_length] at hsl
      obtain ⟨av, cv, rfl⟩ := hsl.shape
      go_wp2
      go_ret
      exact ⟨⟨_, _, rfl, hsl.rd⟩, hbw⟩
end Go.Proofs.Ytbkblfhhhhkeaaa
