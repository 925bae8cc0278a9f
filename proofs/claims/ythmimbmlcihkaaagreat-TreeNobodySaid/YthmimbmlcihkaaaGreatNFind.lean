/-
  sort.Search with the closures of Find and of SearchStrings; SearchStrings; Find.
-/
import Derived.Test.YthmimbmlcihkaaaGreatNSplitA
import Derived.Sort.Walk0
namespace Go.Proofs.YthmimbmlcihkaaaGreat
open Go.RowKit
set_option linter.unusedSimpArgs false
set_option linter.unusedVariables false
set_option maxRecDepth 100000
/-- the first of 0 .. n at which p holds, or n -/
structure First (p : Nat → Bool) (n r : Nat) : Prop where
  le : r ≤ n
  no : ∀ i, i < r → p i = false
  yes : r < n → p r = true
theorem First.uniq {p : Nat → Bool} {n r s : Nat} (a : First p n r) (b : First p n s) : r = s := by
  rcases Nat.lt_trichotomy r s with h | h | h
  · have h1 := b.no r h
    have h2 := a.yes (Nat.lt_of_lt_of_le h b.le)
    rw [h1] at h2; cases h2
  · exact h
  · have h1 := a.no s h
    have h2 := b.yes (Nat.lt_of_lt_of_le h a.le)
    rw [h1] at h2; cases h2
set_option maxRecDepth 100000 in
set_option maxHeartbeats 1000000 in
theorem search62_any (w : World) (c1 c2 : Value) (n : Nat) (hn : n ≤ 8796093022208) (p : Nat → Bool) (hmono : ∀ i j, i ≤ j → j < n → p i = true → p j = true)
    (hf : ∀ w' (k : Nat), Bl w w' → k < n → Calls Tryz.prog 55 #[.int .i64 k, c1, c2] w' fun e w'' => e = .returned (.bool (p k)) ∧ Bl w' w'') :
    Calls Tryz.prog 54 #[.int .i64 n, .func (.func 55) #[] #[c1, c2]] w fun e w' => (∃ r : Nat, e = .returned (.int .i64 r) ∧ First p n r) ∧ Bl w w' := by
  have HF : Hid (∀ w' (k : Nat), Bl w w' → k < n → Calls Tryz.prog 55 #[.int .i64 k, c1, c2] w' fun e w'' => e = .returned (.bool (p k)) ∧ Bl w' w'') := hf
  have HMO : Hid (∀ i j, i ≤ j → j < n → p i = true → p j = true) := hmono
  clear hf hmono
  go_enter Tryz.func54, Tryz.ntmps54
  go_wp2_with fail
  go_loopw [5, 6, 7] (fun i j _ wr => ∃ a b : Nat, a ≤ b ∧ b ≤ n ∧ i = .int .i64 a ∧ j = .int .i64 b ∧ Bl w wr ∧ Hid ((∀ k, k < a → p k = false) ∧ (b < n → p b = true))) (fun i j _ _ => (intOf j).toNat - (intOf i).toNat)
  case atStart => exact ⟨0, n, by omega, by omega, rfl, rfl, Bl.refl _, fun k hk => by omega, fun h => by omega⟩
  case round =>
    obtain ⟨a, b, hab, hbn, rfl, rfl, hB, hpre⟩ := hrel
    have a0 : (0 : Int) ≤ (a : Int) := by omega
    have b0 : (b : Int) ≤ 8796093022208 := by omega
    by_cases hlt : a < b
    · have j1 : (a : Int) < (b : Int) := by omega
      obtain ⟨h, hh⟩ : ∃ h : Nat, h = (a + b) / 2 := ⟨_, rfl⟩
      have h1 : a ≤ h := by omega
      have h2 : h < b := by omega
      have eh : ((a : Int) + (b : Int)) / 2 = (h : Int) := by omega
      have HHH := Lib.hid hh
      clear hh
      have h3 : h < n := by omega
      have k0 : (0 : Int) ≤ (h : Int) := by omega
      have k1 : (h : Int) ≤ 8796093022208 := by omega
      cases hp : p h with
      | false =>
        have hpre' : Hid ((∀ k, k < h + 1 → p k = false) ∧ (b < n → p b = true)) := by
          refine ⟨fun k hk => ?_, hpre.out.2⟩
          cases hq : p k with
          | false => rfl
          | true => have := HMO.out k h (by omega) h3 hq; rw [hp] at this; cases this
        go_wp2_with (go_at_call 55; refine (HF.out _ h hB h3).mono ?_; rw [hp]; rintro e w3 ⟨rfl, k3⟩)
        go_roundw
        case rel => exact ⟨h + 1, b, by omega, by omega, by go_num, rfl, hB.trans k3, hpre'⟩
        case measure => simp [intOf]; omega
      | true =>
        have hpre' : Hid ((∀ k, k < a → p k = false) ∧ (h < n → p h = true)) := ⟨hpre.out.1, fun _ => hp⟩
        go_wp2_with (go_at_call 55; refine (HF.out _ h hB h3).mono ?_; rw [hp]; rintro e w3 ⟨rfl, k3⟩)
        go_roundw
        case rel => exact ⟨a, h, by omega, by omega, rfl, rfl, hB.trans k3, hpre'⟩
        case measure => simp [intOf]; omega
    · obtain rfl : a = b := by omega
      go_wp2_with fail
      go_ret
      exact ⟨⟨a, rfl, hbn, hpre.out.1, hpre.out.2⟩, hB⟩
set_option maxRecDepth 100000 in
set_option maxHeartbeats 1000000 in
theorem search83_any (w : World) (c1 c2 : Value) (n : Nat) (hn : n ≤ 8796093022208) (p : Nat → Bool) (hmono : ∀ i j, i ≤ j → j < n → p i = true → p j = true)
    (hf : ∀ w' (k : Nat), Bl w w' → k < n → Calls Tryz.prog 83 #[.int .i64 k, c1, c2] w' fun e w'' => e = .returned (.bool (p k)) ∧ Bl w' w'') :
    Calls Tryz.prog 54 #[.int .i64 n, .func (.func 83) #[] #[c1, c2]] w fun e w' => (∃ r : Nat, e = .returned (.int .i64 r) ∧ First p n r) ∧ Bl w w' := by
  have HF : Hid (∀ w' (k : Nat), Bl w w' → k < n → Calls Tryz.prog 83 #[.int .i64 k, c1, c2] w' fun e w'' => e = .returned (.bool (p k)) ∧ Bl w' w'') := hf
  have HMO : Hid (∀ i j, i ≤ j → j < n → p i = true → p j = true) := hmono
  clear hf hmono
  go_enter Tryz.func54, Tryz.ntmps54
  go_wp2_with fail
  go_loopw [5, 6, 7] (fun i j _ wr => ∃ a b : Nat, a ≤ b ∧ b ≤ n ∧ i = .int .i64 a ∧ j = .int .i64 b ∧ Bl w wr ∧ Hid ((∀ k, k < a → p k = false) ∧ (b < n → p b = true))) (fun i j _ _ => (intOf j).toNat - (intOf i).toNat)
  case atStart => exact ⟨0, n, by omega, by omega, rfl, rfl, Bl.refl _, fun k hk => by omega, fun h => by omega⟩
  case round =>
    obtain ⟨a, b, hab, hbn, rfl, rfl, hB, hpre⟩ := hrel
    have a0 : (0 : Int) ≤ (a : Int) := by omega
    have b0 : (b : Int) ≤ 8796093022208 := by omega
    by_cases hlt : a < b
    · have j1 : (a : Int) < (b : Int) := by omega
      obtain ⟨h, hh⟩ : ∃ h : Nat, h = (a + b) / 2 := ⟨_, rfl⟩
      have h1 : a ≤ h := by omega
      have h2 : h < b := by omega
      have eh : ((a : Int) + (b : Int)) / 2 = (h : Int) := by omega
      have HHH := Lib.hid hh
      clear hh
      have h3 : h < n := by omega
      have k0 : (0 : Int) ≤ (h : Int) := by omega
      have k1 : (h : Int) ≤ 8796093022208 := by omega
      cases hp : p h with
      | false =>
        have hpre' : Hid ((∀ k, k < h + 1 → p k = false) ∧ (b < n → p b = true)) := by
          refine ⟨fun k hk => ?_, hpre.out.2⟩
          cases hq : p k with
          | false => rfl
          | true => have := HMO.out k h (by omega) h3 hq; rw [hp] at this; cases this
        go_wp2_with (go_at_call 83; refine (HF.out _ h hB h3).mono ?_; rw [hp]; rintro e w3 ⟨rfl, k3⟩)
        go_roundw
        case rel => exact ⟨h + 1, b, by omega, by omega, by go_num, rfl, hB.trans k3, hpre'⟩
        case measure => simp [intOf]; omega
      | true =>
        have hpre' : Hid ((∀ k, k < a → p k = false) ∧ (h < n → p h = true)) := ⟨hpre.out.1, fun _ => hp⟩
        go_wp2_with (go_at_call 83; refine (HF.out _ h hB h3).mono ?_; rw [hp]; rintro e w3 ⟨rfl, k3⟩)
        go_roundw
        case rel => exact ⟨a, h, by omega, by omega, rfl, rfl, hB.trans k3, hpre'⟩
        case measure => simp [intOf]; omega
    · obtain rfl : a = b := by omega
      go_wp2_with fail
      go_ret
      exact ⟨⟨a, rfl, hbn, hpre.out.1, hpre.out.2⟩, hB⟩

def lessB (a b : ByteArray) : Bool := Op.bytesLess a.toList b.toList
theorem lessB_trans {a b c : ByteArray} (h : lessB a b = true) (k : lessB b c = true) : lessB a c = true := by
  unfold lessB at *
  rw [Go.Proofs.bytesLess_eq, decide_eq_true_eq] at h k ⊢
  haveI : Trans (α := UInt8) (β := UInt8) (γ := UInt8) (· < ·) (· < ·) (· < ·) := ⟨fun h k => UInt8.lt_trans h k⟩
  exact List.lt_trans h k
theorem lessB_irr (a : ByteArray) : lessB a a = false := by
  unfold lessB
  rw [Go.Proofs.bytesLess_eq, decide_eq_false_iff_not]
  haveI : Std.Irrefl (α := UInt8) (· < ·) := ⟨fun x h => UInt8.lt_irrefl x h⟩
  exact List.lt_irrefl _
theorem ups_get {l : List ByteArray} (h : ups l = true) : ∀ j (_ : j + 1 < l.length), lessB l[j] l[j + 1] = true := by
  classical
  have h : Ups l l.length := of_decide_eq_true h
  exact fun j hj => h j hj hj
theorem ups_lt {l : List ByteArray} (h : ups l = true) {i : Nat} : ∀ {j : Nat} (hij : i < j) (hj : j < l.length), lessB (l[i]'(by omega)) l[j] = true := by
  intro j hij
  induction hij with
  | refl => intro hj; exact ups_get h i hj
  | step hij ih =>
    intro hj
    exact lessB_trans (ih (by omega)) (ups_get h _ hj)
def atL (l : List ByteArray) (i : Nat) : ByteArray := l[i]?.getD ⟨#[]⟩
theorem atL_get {l : List ByteArray} {i : Nat} (h : i < l.length) : atL l i = l[i] := by simp [atL, h]
theorem mono_geq {l : List ByteArray} (h : ups l = true) (key : ByteArray) : ∀ i j, i ≤ j → j < l.length → (!(lessB (atL l i) key)) = true → (!(lessB (atL l j) key)) = true := by
  intro i j hij hj hi
  rw [atL_get hj]
  rw [atL_get (show i < l.length by omega)] at hi
  rcases Nat.lt_or_ge i j with e | e
  · have := ups_lt h e hj
    cases hq : lessB l[j] key with
    | false => rfl
    | true => rw [lessB_trans this hq] at hi; cases hi
  · obtain rfl : i = j := by omega
    exact hi
set_option maxHeartbeats 1000000 in
theorem closure83_any (w : World) (own : Nat → Prop) (v : Value) (l : List ByteArray) (key : ByteArray) (B1 B2 : Nat) (k : Nat) (hl : TxtAt w own v l) (h1 : w.cell? ⟨B1, 0, none⟩ = some v) (h2 : w.cell? ⟨B2, 0, none⟩ = some (.string key)) (hk : k < l.length) :
    Calls Tryz.prog 83 #[.int .i64 k, .pointer (some ⟨B1, 0, none⟩), .pointer (some ⟨B2, 0, none⟩)] w fun e w' => e = .returned (.bool (!(lessB (atL l k) key))) ∧ Bl w w' := by
  obtain ⟨a, cap, rfl, hmax⟩ := RdAt.shape hl
  unfold maxLen at hmax
  obtain ⟨g, off, rfl, _, hg, hc⟩ := RdAt.get hl (by omega)
  have c1 := hc k _ (tcells_get hk)
  clear hc
  have i0 : (0 : Int) ≤ (k : Int) := by omega
  have i1 : (k : Int) < (l.length : Int) := by omega
  have HE : Hid (lessB (atL l k) key = Op.bytesLess l[k].toList key.toList) := by show _ = _; rw [atL_get hk]; rfl
  go_enter Tryz.func83, Tryz.ntmps83
  go_wp2_with fail
  go_region
  all_goals go_wp2_with fail
  go_ret
  exact ⟨by rw [HE.out]; rfl, (Bl.refl w).drew⟩
set_option maxHeartbeats 1000000 in
theorem searchstrings_any (w : World) (own : Nat → Prop) (v : Value) (l : List ByteArray) (key : ByteArray) (hl : TxtAt w own v l) (hs : l.length ≤ 8796093022208) (hu : ups l = true) :
    Calls Tryz.prog 56 #[v, .string key] w fun e w' => (∃ r : Nat, e = .returned (.int .i64 r) ∧ First (fun k => !(lessB (atL l k) key)) l.length r) ∧ Bl w w' := by
  obtain ⟨a, cap, rfl, hmax⟩ := RdAt.shape hl
  have kB : Bl w ((w.alloc (.cells #[.slice a l.length cap] 59)).alloc (.cells #[.string key] 9)) := ((Bl.refl w).alloc _).alloc _
  have b1 : ((w.alloc (.cells #[.slice a l.length cap] 59)).alloc (.cells #[.string key] 9)).heap[w.heap.size]? = some (.cells #[.slice a l.length cap] 59 (0, 0)) := block_old _ (block_new _ _)
  have b2 : ((w.alloc (.cells #[.slice a l.length cap] 59)).alloc (.cells #[.string key] 9)).heap[w.heap.size + 1]? = some (.cells #[.string key] 9 (0, 0)) := block_new' _ (by simp)
  have hl2 := RdAt.below hl kB
  have HU := Lib.hid hu
  clear hu
  go_enter Tryz.func56, Tryz.ntmps56
  go_wp2_with fail
  generalize (w.alloc (.cells #[.slice a l.length cap] 59)).alloc (.cells #[.string key] 9) = W2 at *
  refine (search83_any W2 _ _ l.length hs (fun k => !(lessB (atL l k) key)) (mono_geq HU.out key) (fun w' k kk hk => ?_)).mono ?_
  · exact closure83_any w' own _ l key _ _ k (RdAt.below hl2 kk) ((cell_of_block (below_keeps kk b1 (lt_of_block b1)) 0).trans rfl) ((cell_of_block (below_keeps kk b2 (lt_of_block b2)) 0).trans rfl) hk
  · rintro e w3 ⟨⟨r, rfl, hr⟩, k3⟩
    go_wp2_with fail
    go_ret
    exact ⟨⟨r, rfl, hr⟩, kB.trans k3⟩
end Go.Proofs.YthmimbmlcihkaaaGreat
