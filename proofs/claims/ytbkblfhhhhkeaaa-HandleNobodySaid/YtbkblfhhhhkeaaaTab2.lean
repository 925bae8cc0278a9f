/-
  Package handle: Inodes, Clear, Fork of a table that New gave.
-/
import Derived.Test.YtbkblfhhhhkeaaaInod
import Derived.Deep.MidRow
namespace Go.Proofs.Ytbkblfhhhhkeaaa
open Go.RowKit
set_option linter.unusedSimpArgs false
set_option linter.unusedVariables false

theorem hinodes_any (w : World) (b : Nat) (l : List (Int × Int)) (h : TabAt w b l) (ok : TabOk l) :
    Calls Try.prog 17 #[.pointer (some ⟨b, 0, none⟩)] w fun e w' => (∃ a c, e = .returned (.slice a (inosOf (opens l)).length c) ∧ IntsAt w' (fun j => w.heap.size ≤ j) (.slice a (inosOf (opens l)).length c) (inosOf (opens l))) ∧ Below w.heap.size w w' :=
  hinodes_of (H := Unit) w _ (opens l) (opens_len l) (opn_wf ok h.len) (fun W' k => all_any W' b l (h.below k h.lt))

def setAll (cs : Array Value) : Nat → List Value → Array Value
  | _, [] => cs
  | o, v :: r => setAll (cs.setIfInBounds o v) (o + 1) r
theorem block_setCells {b : Nat} {t : TypeId} {fr : Nat × Nat} : ∀ (vs : List Value) {w : World} {cs : Array Value} (o : Nat), w.heap[b]? = some (.cells cs t fr) → (w.setCells b o vs).heap[b]? = some (.cells (setAll cs o vs) t fr)
  | [], w, cs, o, h => h
  | v :: r, w, cs, o, h => block_setCells r (o + 1) (block_set h o v)
theorem setAll_list : ∀ (vs : List Value) (cs : List Value) (o : Nat), o + vs.length ≤ cs.length → setAll cs.toArray o vs = (cs.take o ++ vs ++ cs.drop (o + vs.length)).toArray
  | [], cs, o, h => by simp [setAll]
  | v :: r, cs, o, h => by
    simp only [List.length_cons] at h
    have e : (cs.toArray.setIfInBounds o v) = (cs.set o v).toArray := by simp
    unfold setAll
    rw [e, setAll_list r (cs.set o v) (o + 1) (by simp; omega)]
    congr 1
    rw [List.take_set, List.drop_set_of_lt (by omega), List.take_succ_eq_append_getElem (by omega), List.set_append_right _ _ (by simp; omega)]
    simp [Nat.min_eq_left (show o ≤ cs.length by omega), Nat.add_assoc, Nat.add_comm 1]
theorem chg_setCells {own : Nat → Prop} {b : Nat} : ∀ (vs : List Value) {a w : World} (o : Nat), Chg own a w → (b < a.heap.size → own b) → Chg own a (w.setCells b o vs)
  | [], a, w, o, h, hb => h
  | v :: r, a, w, o, h, hb => chg_setCells r (o + 1) (h.setCell ⟨b, o, none⟩ v hb) hb
theorem slots_one (l : List (Int × Int)) : ∀ u ∈ slots l, u.oneCell' = true := by
  intro u hu
  simp only [slots, List.mem_flatMap, List.mem_cons, List.not_mem_nil, or_false] at hu
  obtain ⟨p, _, rfl | rfl⟩ := hu <;> rfl
theorem info45 : (Try.prog.info? 45).map (·.size) = some 128 := by kernel_rfl
theorem info47 : (Try.prog.info? 47).map (·.size) = some 129 := by kernel_rfl
def freeSlots : List Value := slots noTab
theorem freeSlots_len : freeSlots.length = 128 := by unfold freeSlots; rw [slots_len, noTab_len]

theorem clear_end {w w1 : World} {b : Nat} {l : List (Int × Int)} (h1 : TabAt w1 b l) (k1 : Below w.heap.size w w1) (L : List Int) {a1 : Option Addr} {c1 : Nat} (r1 : IntsAt w1 (fun j => w.heap.size ≤ j) (.slice a1 L.length c1) L) (hlt : b < w.heap.size) :
    TabAt (w1.setCells b 1 freeSlots) b noTab ∧ Chg (· = b) w (w1.setCells b 1 freeSlots) ∧ IntsAt (w1.setCells b 1 freeSlots) (fun j => w.heap.size ≤ j) (.slice a1 L.length c1) L := by
  have hb := block_setCells freeSlots 1 h1.block
  have e : setAll (tabCells l) 1 freeSlots = tabCells noTab := by
    unfold tabCells
    rw [setAll_list _ _ _ (by simp [freeSlots_len, slots_len, h1.len])]
    rw [List.drop_eq_nil_of_le (by simp [freeSlots_len, slots_len, h1.len])]
    simp [freeSlots]
  rw [e] at hb
  have hc : Chg (· = b) w1 (w1.setCells b 1 freeSlots) := chg_setCells freeSlots 1 (Chg.refl _ w1) (fun _ => rfl)
  exact ⟨⟨noTab_len, hb⟩, (Chg.of_below k1).trans hc, RdAt.keep r1 (fun k hk hp => hc.block k hk (by omega)) (fun _ _ x => x) hc.size⟩
set_option maxRecDepth 100000 in
set_option maxHeartbeats 1000000 in
theorem clear_any (w : World) (b : Nat) (l : List (Int × Int)) (h : TabAt w b l) (ok : TabOk l) :
    Calls Try.prog 18 #[.pointer (some ⟨b, 0, none⟩)] w fun e w' => (∃ a c, e = .returned (.slice a (inosOf (opens l)).length c) ∧ IntsAt w' (fun j => w.heap.size ≤ j) (.slice a (inosOf (opens l)).length c) (inosOf (opens l))) ∧ TabAt w' b noTab ∧ Chg (· = b) w w' := by
  have hz : ∀ w, (zeroValue 45).run Try.prog w = .ok (.agg freeSlots.toArray) w := fun _ => by kernel_rfl
  have hlt := h.lt
  go_enter Try.func18, Try.ntmps18
  go_wp2_with fail
  refine (hinodes_any _ _ _ h ok).mono ?_
  rintro e w1 ⟨⟨a1, c1, rfl, r1⟩, k1⟩
  have h1 := h.below k1 hlt
  have hth : w1.there b 1 (freeSlots.toArray.size) := fun j hj => by
    have hj' : j < 128 := by simpa [freeSlots_len] using hj
    have hcs : (tabCells l).size = 129 := by simp [tabCells, slots_len, h1.len]
    refine ⟨?_, free_of_block h1.block _⟩
    rw [cell_of_block h1.block]
    simp [hcs]; omega
  have Hth := Lib.hid hth
  clear hth
  go_wp2_with (refine wpList_store_mid rfl 45 (.tmp 11) (.tmp 9) rfl b 1 freeSlots.toArray rfl rfl Hth.out (by rw [info45]; simp [freeSlots_len]) (all_oneCell_toArray (slots_one _)) ?_)
  obtain ⟨e1, e2, e3⟩ := clear_end h1 k1 _ r1 hlt
  clear r1 hz Hth
  generalize w1.setCells b 1 freeSlots = w9 at *
  go_ret
  exact ⟨⟨_, _, rfl, e3⟩, e1, e2⟩
set_option maxRecDepth 100000 in
set_option maxHeartbeats 1000000 in
theorem hfork_any (w : World) (b : Nat) (l : List (Int × Int)) (h : TabAt w b l) :
    Calls Try.prog 14 #[.pointer (some ⟨b, 0, none⟩)] w fun e w' => (∃ b', e = .returned (.pointer (some ⟨b', 0, none⟩)) ∧ w.heap.size ≤ b' ∧ TabAt w' b' l) ∧ Below w.heap.size w w' := by
  have hz : ∀ w, (zeroValue 47).run Try.prog w = .ok (.agg ((.bool false :: freeSlots).toArray)) w := fun _ => by kernel_rfl
  have hm := h.made
  have hcs : (tabCells l).size = 129 := by simp [tabCells, slots_len, h.len]
  have hth : (w.alloc (.cells ((.bool false :: freeSlots).toArray) 47)).there w.heap.size 0 ((tabCells l).size) := fun j hj => by
    refine ⟨?_, free_of_block (block_new _ _) _⟩
    rw [cell_of_block (block_new _ _)]
    rw [hcs] at hj
    simp [freeSlots_len]; omega
  have Hth := Lib.hid hth
  have Hcs := Lib.hid hcs
  have hone : (tabCells l).all (·.oneCell') = true := all_oneCell_toArray (fun v hv => by
    rcases List.mem_cons.1 hv with rfl | hv
    · rfl
    · exact slots_one _ v hv)
  have Hone := Lib.hid hone
  clear hth hcs hone
  go_enter Try.func14, Try.ntmps14
  go_wp2_with (first
    | (refine wpList_load_row rfl 47 (.tmp 14) rfl b rfl 47 (tabCells l) (0, 0) _ h.block Try.underlying47 rfl (by rw [info47, Hcs.out]) ?_)
    | (refine wpList_store_mid rfl 47 (.tmp 3) (.tmp 15) rfl w.heap.size 0 (tabCells l) rfl rfl Hth.out (by rw [info47, Hcs.out]) Hone.out ?_))
  go_ret
  have hb := block_setCells (tabCells l).toList 0 (block_new w (.cells ((.bool false :: freeSlots).toArray) 47))
  have e : setAll ((.bool false :: freeSlots).toArray) 0 (tabCells l).toList = tabCells l := by
    rw [setAll_list _ _ _ (by simp [tabCells, freeSlots_len, slots_len, h.len])]
    rw [List.drop_eq_nil_of_le (by simp [tabCells, freeSlots_len, slots_len, h.len])]
    simp
  rw [e] at hb
  exact ⟨⟨_, rfl, Nat.le_refl _, h.len, hb⟩, (chg_setCells (own := fun k => w.heap.size ≤ k) _ _ (Chg.of_below ((Below.refl _ _).alloc (Nat.le_refl _) _)) (fun h => by omega)).below (Nat.le_refl _) (fun i hi e => by omega)⟩
end Go.Proofs.Ytbkblfhhhhkeaaa
