/-
  A tree's node and a tree in memory: dirty, New, fetch, holds, at, fits, Root.
-/
import Derived.Test.YthmimbmlcihkaaaGreatT1
import Derived.Deep.RegionHeld3
namespace Go.Proofs.YthmimbmlcihkaaaGreat
open Go.RowKit
set_option linter.unusedSimpArgs false
set_option linter.unusedVariables false
set_option maxRecDepth 100000

theorem NodeIn.all {w : World} {own : Nat → Prop} {n : ND} {ka : Option Addr} {kc : Nat} {va : Option Addr} {vc : Nat} {ia : Option Addr} {ic : Nat} (h : NodeIn w own n ka kc va vc ia ic) : NodeIn w AllB n ka kc va vc ia ic := h.mono (fun _ _ _ => trivial)
set_option maxHeartbeats 1000000 in
theorem dirty_any (w : World) (own own2 : Nat → Prop) (v : Value) (n : ND) (pa : Option Addr) (pc : Nat) (ps : List Nat) (hv : NodeAt w own v n) (hp : RdAt w own2 1 (.slice pa ps.length pc) ps.length (ps.map ptr)) (hps : ps.length ≤ 1048576) :
    Calls Tryz.prog 24 #[v, .slice pa ps.length pc] w fun e w' => ∃ b, e = .returned (ptr b) ∧ w.heap.size ≤ b ∧ KnotOn (fun k => own k ∨ own2 k ∨ w.heap.size ≤ k) w' b { n with kids := upTo ps.length } ps (-1) ∧ Bl w w' := by
  obtain ⟨ka, kc, va, vc, ia, ic, rfl, h⟩ := hv
  have hB1 : (w.alloc (.cells #[.bool n.leaf, .slice ka n.keys.length kc, .slice va n.values.length vc, .slice ia n.kids.length ic] 61)).heap[w.heap.size]? = some (.cells #[.bool n.leaf, .slice ka n.keys.length kc, .slice va n.values.length vc, .slice ia n.kids.length ic] 61 (0, 0)) := block_new _ _
  have kB : Bl w (w.alloc (.cells #[.bool n.leaf, .slice ka n.keys.length kc, .slice va n.values.length vc, .slice ia n.kids.length ic] 61)) := (Bl.refl w).alloc _
  have H := Lib.hid (h.mono (own2 := fun k => own k ∧ k < w.heap.size) (fun k hk e => ⟨e, hk⟩))
  have HP := Lib.hid (RdAt.mono (own2 := fun k => own2 k ∧ k < w.heap.size) hp (fun k hk e => ⟨e, hk⟩))
  clear h hp
  unfold nodeV
  go_enter Tryz.func24, Tryz.ntmps24
  go_wp2_with fail
  generalize w.alloc (.cells #[.bool n.leaf, .slice ka n.keys.length kc, .slice va n.values.length vc, .slice ia n.kids.length ic] 61) = w1 at *
  generalize hM : w.heap.size = M at *
  refine (places_any w1 ps.length hps).mono ?_
  rintro e w2 ⟨⟨a2, cap2, rfl, hs2⟩, k2⟩
  have hMl : M < w1.heap.size := lt_of_block hB1
  have hB2 := below_keeps k2 hB1 hMl
  obtain ⟨c0, c1, c2, c3, z0, z1, z2, z3⟩ := cells4 hB2
  have K12 : Bl w w2 := Bl.trans kB k2
  have H2 := Lib.hid (H.out.below K12)
  have HP2 := Lib.hid (HP.out.below K12)
  have HI2 : Hid (SlAt w2 (fun j => w1.heap.size ≤ j) 3 1 (.slice a2 ps.length cap2) ps.length (icells (upTo ps.length))) := hs2
  have hM2 : M < w2.heap.size := Nat.lt_of_lt_of_le hMl k2.size
  have HB2 := Lib.hid hB2
  have HM := Lib.hid hM
  have HK := Lib.hid K12
  have HML := Lib.hid hMl
  clear hs2 k2 hB1 hB2 kB K12 H HP hM
  generalize hpl : ps.length = pl at *
  go_wp2_with fail
  go_ret
  have hc3 : Chg (fun j => j = M) w2 (w2.setCell ⟨M, 3, none⟩ (.slice a2 pl cap2)) := (Chg.refl _ _).setCell _ _ (fun _ => rfl)
  have hblk : Bl w (w2.setCell ⟨M, 3, none⟩ (.slice a2 pl cap2)) := HK.out.chg hc3 (fun i hi e => by have := HM.out; omega)
  have hn := (H2.out.chg hc3 (fun k e e' => by have e' : k = M := e'; omega)).below ((Bl.refl _).alloc (.cells #[.bool n.leaf, .slice ka n.keys.length kc, .slice va n.values.length vc, .slice a2 pl cap2, .slice pa pl pc, .int .i64 (-1), .bool true] 84))
  have hp := (RdAt.chg HP2.out hc3 (fun k e e' => by have e' : k = M := e'; omega)).below ((Bl.refl _).alloc (.cells #[.bool n.leaf, .slice ka n.keys.length kc, .slice va n.values.length vc, .slice a2 pl cap2, .slice pa pl pc, .int .i64 (-1), .bool true] 84))
  have hi := (SlAt.chg HI2.out hc3 (fun k e e' => by have e' : k = M := e'; have := HML.out; omega)).rd.below ((Bl.refl _).alloc (.cells #[.bool n.leaf, .slice ka n.keys.length kc, .slice va n.values.length vc, .slice a2 pl cap2, .slice pa pl pc, .int .i64 (-1), .bool true] 84))
  refine ⟨w2.heap.size, rfl, by have := HM.out; omega, ⟨ka, kc, va, vc, a2, cap2, pa, pc, ?_, ⟨RdAt.mono hn.keys (fun _ _ e => Or.inl e.1), RdAt.mono hn.values (fun _ _ e => Or.inl e.1), ?_⟩, ?_⟩, hblk.alloc _⟩
  · unfold knotC
    rw [upTo_len, hpl]
    exact block_new' _ (by simp)
  · unfold IntsAt
    rw [upTo_len, hpl]
    exact RdAt.mono hi (fun k _ e => Or.inr (Or.inr (by have := HM.out; have := HML.out; omega)))
  · rw [hpl]
    exact RdAt.mono hp (fun _ _ e => Or.inr (Or.inl e.1))
/-- one argument: a literal leaf without keys -/
theorem leaf_empty (w : World) (own : Nat → Prop) : NodeAt w own (.agg #[.bool true, .slice none 0 0, .slice none 0 0, .slice none 0 0]) ⟨true, [], [], []⟩ :=
  ⟨none, 0, none, 0, none, 0, rfl, (SlAt.nil w own 9 1 none).rd, (SlAt.nil w own 9 1 none).rd, (SlAt.nil w own 3 1 none).rd⟩
set_option maxHeartbeats 1000000 in
theorem new512 (w : World) : Calls Tryz.prog 9 #[.int .i64 512] w fun e w' => ∃ tb kb, e = .returned (.tuple #[ptr tb, .int .i64 0]) ∧ TreeIn w' tb 512 .nilIface kb ∧ KnotIn w' kb ⟨true, [], [], []⟩ [] (-1) ∧ Bl w w' := by
  go_enter Tryz.func9, Tryz.ntmps9
  go_wp2_with fail
  refine (right512 w).mono ?_
  rintro e w1 ⟨rfl, rfl⟩
  go_wp2_with fail
  refine (dirty_any _ AllB AllB _ ⟨true, [], [], []⟩ none 0 [] (leaf_empty _ _) (SlAt.nil _ _ 57 1 none).rd (by simp)).mono ?_
  rintro e w2 ⟨b, rfl, -, hk, k2⟩
  have HK := Lib.hid hk.all
  have K2 := Lib.hid k2
  clear hk k2
  unfold ptr at *
  go_wp2_with fail
  refine bodyPost_ret (v := .tuple #[ptr w2.heap.size, .int .i64 0]) (by simp [results, Tryz.results9, go_sem, ptr, *]) rfl ?_
  exact ⟨w2.heap.size, b, rfl, block_new _ _, HK.out.below ((Bl.refl _).alloc _), K2.out.alloc _⟩
section
variable {w : World} {tb kb : Nat} {size : Int} {rv : Value} {n : ND} {ps : List Nat} {sector : Int}
theorem root_any (h : TreeIn w tb size rv kb) (hk : KnotIn w kb n ps sector) : Calls Tryz.prog 14 #[ptr tb] w fun e w' => e = .returned (.int .i64 sector) ∧ w' = w := by
  obtain ⟨ka, kc, va, vc, ia, ic, pa, pc, h1, h2, h3⟩ := hk
  obtain ⟨-, -, c2⟩ := h.cells
  have s5 : w.cell? ⟨kb, 5, none⟩ = some (.int .i64 sector) := by rw [cell_of_block h1]; rfl
  have H := Lib.hid h
  clear h h1 h2 h3
  unfold ptr at *
  go_enter Tryz.func14, Tryz.ntmps14
  go_wp2_with fail
  refine (made_any H.out).mono ?_
  rintro e w1 ⟨rfl, rfl⟩
  go_wp2_with fail
  go_ret
  exact ⟨rfl, rfl⟩
theorem fetch_any (h : TreeIn w tb size rv kb) {b : Nat} (hk : KnotIn w b n ps sector) : Calls Tryz.prog 75 #[ptr tb, ptr b] w fun e w' => e = .returned (.bool true) ∧ w' = w := by
  obtain ⟨ka, kc, va, vc, ia, ic, pa, pc, h1, h2, h3⟩ := hk
  have s6 : w.cell? ⟨b, 6, none⟩ = some (.bool true) := by rw [cell_of_block h1]; rfl
  clear h h1 h2 h3
  unfold ptr at *
  go_enter Tryz.func75, Tryz.ntmps75
  go_wp2_with fail
  go_ret
  exact ⟨rfl, rfl⟩
end
end Go.Proofs.YthmimbmlcihkaaaGreat
