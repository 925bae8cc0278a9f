/-
  slices.Clone at texts and at ints.
-/
import Derived.Test.YthmimbmlcihkaaaGreatNHalf
import Derived.OwnWalk
import Derived.Lib.LazyBuf
namespace Go.Proofs.YthmimbmlcihkaaaGreat
open Go.RowKit
set_option linter.unusedSimpArgs false
set_option linter.unusedVariables false
set_option maxRecDepth 100000
@[go_sem] theorem eql_nil22 (w : World) (a : Option Addr) (l c : Nat) : (binOp .eql 59 (.slice a l c) (.slice none 0 0)).run Tryz.prog w = .ok (.bool a.isNone) w := by apply Lib.run_eql_slice_nil (e := 9); exact Tryz.underlying59
@[go_sem] theorem eql_nil23 (w : World) (a : Option Addr) (l c : Nat) : (binOp .eql 32 (.slice a l c) (.slice none 0 0)).run Tryz.prog w = .ok (.bool a.isNone) w := by apply Lib.run_eql_slice_nil (e := 3); exact Tryz.underlying32
set_option maxHeartbeats 1000000 in
theorem clone_texts_sl (w : World) (own : Nat → Prop) (v : Value) (l : List ByteArray) (hl : TxtAt w own v l) (hs : l.length ≤ 8796093022208) :
    Calls Tryz.prog 58 #[v] w fun e w' => (∃ u, e = .returned u ∧ SlAt w' (fun j => w.heap.size ≤ j) 9 1 u l.length (tcells l)) ∧ Bl w w' := by
  obtain ⟨i9, hi9, hz0, hz1, hz2⟩ := info_parts info9
  have hl' := hl
  obtain ⟨a, cap, rfl, hmax⟩ := RdAt.shape hl
  cases a with
  | none =>
    have hn : l = [] := by
      by_cases h : 0 < l.length
      · obtain ⟨g, off, hg, _⟩ := RdAt.get hl h
        cases hg
      · exact List.length_eq_zero_iff.1 (by omega)
    subst hn
    go_enter Tryz.func58, Tryz.ntmps58
    go_wp2_with fail
    go_ret
    exact ⟨⟨_, rfl, SlAt.nil _ _ 9 1 _⟩, Bl.refl _⟩
  | some p =>
    go_enter Tryz.func58, Tryz.ntmps58
    go_wp2_with (at_builtin; refine wpList_append_sl rfl (.tmp 5) (.tmp 6) 59 rfl 9 i9 (.string ⟨#[]⟩) 1 16 Tryz.underlying59 hi9 hz0 hz1 hz2 rfl (fun _ => False) _ 0 [] rfl (SlAt.nil _ _ _ _ _) own _ l.length (tcells l) rfl ?_ (tcells_one _) ?_ ?_ ?_; exact RdAt.below hl' ((Bl.refl w).alloc _); (unfold maxLen; omega); omega; intro v9 w9 hs9 hc9; rw [Nat.zero_add, List.nil_append] at hs9; obtain ⟨a9, cap9, rfl⟩ := hs9.shape; (have k9 : Bl w w9 := Bl.trans ((Bl.refl w).alloc _) (hc9.below (Nat.le_refl _) (fun _ _ e => e))))
    go_ret
    exact ⟨⟨_, rfl, hs9.mono (fun j _ e => by rcases e with e | e; exact e.elim; rw [e]; simp)⟩, k9⟩
set_option maxHeartbeats 1000000 in
theorem clone_ints_sl (w : World) (own : Nat → Prop) (v : Value) (l : List Int) (hl : IntsAt w own v l) (hs : l.length ≤ 17592186044416) :
    Calls Tryz.prog 80 #[v] w fun e w' => (∃ u, e = .returned u ∧ SlAt w' (fun j => w.heap.size ≤ j) 3 1 u l.length (icells l)) ∧ Bl w w' := by
  obtain ⟨i3, hi3, hz0, hz1, hz2⟩ := info_parts info3
  have hl' := hl
  obtain ⟨a, cap, rfl, hmax⟩ := RdAt.shape hl
  cases a with
  | none =>
    have hn : l = [] := by
      by_cases h : 0 < l.length
      · obtain ⟨g, off, hg, _⟩ := RdAt.get hl h
        cases hg
      · exact List.length_eq_zero_iff.1 (by omega)
    subst hn
    go_enter Tryz.func80, Tryz.ntmps80
    go_wp2_with fail
    go_ret
    exact ⟨⟨_, rfl, SlAt.nil _ _ 3 1 _⟩, Bl.refl _⟩
  | some p =>
    go_enter Tryz.func80, Tryz.ntmps80
    go_wp2_with (at_builtin; refine wpList_append_sl rfl (.tmp 5) (.tmp 6) 32 rfl 3 i3 (.int .i64 0) 1 8 Tryz.underlying32 hi3 hz0 hz1 hz2 rfl (fun _ => False) _ 0 [] rfl (SlAt.nil _ _ _ _ _) own _ l.length (icells l) rfl ?_ (icells_one _) ?_ ?_ ?_; exact RdAt.below hl' ((Bl.refl w).alloc _); (unfold maxLen; omega); omega; intro v9 w9 hs9 hc9; rw [Nat.zero_add, List.nil_append] at hs9; obtain ⟨a9, cap9, rfl⟩ := hs9.shape; (have k9 : Bl w w9 := Bl.trans ((Bl.refl w).alloc _) (hc9.below (Nat.le_refl _) (fun _ _ e => e))))
    go_ret
    exact ⟨⟨_, rfl, hs9.mono (fun j _ e => by rcases e with e | e; exact e.elim; rw [e]; simp)⟩, k9⟩
theorem clone_texts (w : World) (own : Nat → Prop) (v : Value) (l : List ByteArray) (hl : TxtAt w own v l) (hs : l.length ≤ 8796093022208) :
    Calls Tryz.prog 58 #[v] w fun e w' => (∃ u, e = .returned u ∧ TxtAt w' (fun j => w.heap.size ≤ j) u l) ∧ Bl w w' := by
  refine (clone_texts_sl w own v l hl hs).mono ?_
  rintro e w' ⟨⟨u, rfl, q⟩, k⟩
  exact ⟨⟨u, rfl, q.rd⟩, k⟩
theorem clone_ints (w : World) (own : Nat → Prop) (v : Value) (l : List Int) (hl : IntsAt w own v l) (hs : l.length ≤ 17592186044416) :
    Calls Tryz.prog 80 #[v] w fun e w' => (∃ u, e = .returned u ∧ IntsAt w' (fun j => w.heap.size ≤ j) u l) ∧ Bl w w' := by
  refine (clone_ints_sl w own v l hl hs).mono ?_
  rintro e w' ⟨⟨u, rfl, q⟩, k⟩
  exact ⟨⟨u, rfl, q.rd⟩, k⟩
end Go.Proofs.YthmimbmlcihkaaaGreat
