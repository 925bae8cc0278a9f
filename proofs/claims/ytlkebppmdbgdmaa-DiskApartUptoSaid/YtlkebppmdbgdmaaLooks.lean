/-
  The law's 'looks': do both stand the same?
-/
import Derived.Test.YtlkebppmdbgdmaaStepW
namespace Go.Proofs.Ytlkebppmdbgdmaa
open Go.RowKit
set_option linter.unusedSimpArgs false
set_option linter.unusedVariables false

theorem Step2.trans {c d : Nat} {col col1 col2 : Nat → Nat} {w w1 w2 : World} (h : Step2 c d col col1 w w1) (k : Step2 c d col1 col2 w1 w2) : Step2 c d col col2 w w2 :=
  ⟨h.ext.trans k.ext h.chg.size, h.chg.trans' k.chg (fun i hi e => by unfold inC at *; rw [h.ext i hi] at e; exact e), k.norm⟩
theorem Step2.refl {c d : Nat} {col : Nat → Nat} {w : World} (hn : Norm w col) : Step2 c d col col w w := ⟨Ext.refl _ _, Chg.refl _ _, hn⟩
theorem Env.step2 {W w w' : World} {c d : Nat} {col col' : Nat → Nat} (h : Env W col w) (k : Step2 c d col col' w w') (hc : 1 < c) (hd : 1 < d) : Env W col' w' :=
  ⟨k.norm, fun i hi => (k.ext i (Nat.lt_of_lt_of_le hi h.size)).trans (h.zero i hi), chg_grow h.bel (Nat.le_refl _) k.chg (fun i hi e => by have := h.zero i hi; unfold inC at e; omega)⟩
theorem Step2.other {T : TypeId} {w w' : World} {c d e b : Nat} {s : DS} {col col' : Nat → Nat} (k : Step2 c d col col' w w') (hc : 1 < c) (hd : 1 < d) (h1 : e + 2 < c ∨ c + 2 < e) (h2 : e + 2 < d ∨ d + 2 < e) (h : DiskAt w T col e b s) : DiskAt w' T col' e b s :=
  h.keep (fun i hi x => k.chg.block i hi (fun y => by unfold inC at x y; omega)) k.ext k.chg.size
theorem Step2.refAt {w w' : World} {c d e b : Nat} {s : DS} {col col' : Nat → Nat} (k : Step2 c d col col' w w') (hc : 1 < c) (hd : 1 < d) (h1 : e + 2 < c ∨ c + 2 < e) (h2 : e + 2 < d ∨ d + 2 < e) (h : RefAt w col e b s) : RefAt w' col' e b s := by
  obtain ⟨t, h, x⟩ := h
  exact ⟨t, k.other hc hd h1 h2 h, x⟩

theorem look_one (k : Int) (hk : k = 4 ∨ k = 6 ∨ k = 7 ∨ k = 10) (w : World) (col : Nat → Nat) (c d b b2 : Nat) (s : DS) (hd : DiskAt w 69 col c b s) (hx : RefAt w col d b2 s) (ok : s.Ok) (hnm : Norm w col) (hc : 1 < c) (hd1 : 1 < d) (hcd : d + 2 < c ∨ c + 2 < d) (hp : s.pending.length ≤ 1073741824) :
    Calls Try.prog 30 #[.pointer (some ⟨b, 0, none⟩), .pointer (some ⟨b2, 0, none⟩), .agg #[.int .i64 k, .int .i64 0, .int .u8 0, .int .i64 0, .slice none 0 0]] w fun e w' => e = .returned (.bool true) ∧ Both2 c d col b b2 s w w' := by
  have h := step_any w col c d b b2 s ⟨k, 0, 0, 0, []⟩ none 0 hd hx ok hnm hc hd1 hcd hp (by simp) (SlAt.nil _ _ 3 _ _).rd
  have e : stepS s ⟨k, 0, 0, 0, []⟩ = s := by
    rcases hk with rfl | rfl | rfl | rfl <;> simp [stepS]
  rw [e] at h
  exact h
set_option maxHeartbeats 1000000 in
theorem looks_any (w : World) (col : Nat → Nat) (c d b b2 : Nat) (s : DS) (hd : DiskAt w 69 col c b s) (hx : RefAt w col d b2 s) (ok : s.Ok) (hnm : Norm w col) (hc : 1 < c) (hd1 : 1 < d) (hcd : d + 2 < c ∨ c + 2 < d) (hp : s.pending.length ≤ 1073741824) :
    Calls Try.prog 31 #[.pointer (some ⟨b, 0, none⟩), .pointer (some ⟨b2, 0, none⟩)] w fun e w' => e = .returned (.bool true) ∧ Both2 c d col b b2 s w w' := by
  go_enter Try.func31, Try.ntmps31
  go_wp2_with fail
  refine (look_one 4 (Or.inl rfl) _ _ c d _ _ s hd hx ok hnm hc hd1 hcd hp).mono ?_
  rintro e w1 ⟨rfl, col1, k1, hd1', hx1⟩
  go_wp2_with fail
  refine (look_one 6 (Or.inr (Or.inl rfl)) _ _ c d _ _ s hd1' hx1 ok k1.norm hc hd1 hcd hp).mono ?_
  rintro e w2 ⟨rfl, col2, k2, hd2', hx2⟩
  go_wp2_with fail
  refine (look_one 7 (Or.inr (Or.inr (Or.inl rfl))) _ _ c d _ _ s hd2' hx2 ok k2.norm hc hd1 hcd hp).mono ?_
  rintro e w3 ⟨rfl, col3, k3, hd3', hx3⟩
  go_wp2_with fail
  refine (look_one 10 (Or.inr (Or.inr (Or.inr rfl))) _ _ c d _ _ s hd3' hx3 ok k3.norm hc hd1 hcd hp).mono ?_
  rintro e w4 ⟨rfl, col4, k4, hd4', hx4⟩
  go_wp2_with fail
  go_ret
  exact ⟨rfl, col4, ((k1.trans k2).trans k3).trans k4, hd4', hx4⟩
end Go.Proofs.Ytlkebppmdbgdmaa
