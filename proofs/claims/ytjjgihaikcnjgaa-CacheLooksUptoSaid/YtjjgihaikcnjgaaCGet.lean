/-
  Get, Pin, Unpin of package cache.
-/
import Derived.Test.YtjjgihaikcnjgaaCFind
import Derived.Test.YtjjgihaikcnjgaaCWalk3
namespace Go.Proofs.Ytjjgihaikcnjgaa
open Go.RowKit Go.Maps
set_option linter.unusedSimpArgs false
set_option linter.unusedVariables false
set_option maxRecDepth 100000

section
variable {w : World} {col : Nat → Nat} {c b db rb mb : Nat} {s : CS} {ns : List (Nat × Frm)}
/-- a cache as the laws see it -/
def Now (w : World) (col : Nat → Nat) (c b db : Nat) (t : CS) (w' : World) (P : (Nat → Nat) → Prop) : Prop := ∃ col', CacheAt w' col' c b db t ∧ KStep c col col' w w' ∧ P col'
theorem last_bytes {s : CS} {m : List (Nat × Frm)} {x : Nat × Frm} (h : (m ++ [x]).map Prod.snd = s.frames) : s.lastBytes = x.2.bytes := by
  unfold CS.lastBytes; rw [← h]; simp
/-- what Get and Pin tell -/
def Tells (w : World) (col : Nat → Nat) (c b db : Nat) (r : Int × CS) (e : Ending) (w' : World) : Prop :=
  Now w col c b db r.2 w' fun col' => (r.1 = 0 ∧ ∃ a cap, e = .returned (.tuple #[.slice a r.2.lastBytes.length cap, .int .i64 0]) ∧ SlAt w' (Nil0 col') 5 1 (.slice a r.2.lastBytes.length cap) r.2.lastBytes.length (bcells r.2.lastBytes))
    ∨ (r.1 ≠ 0 ∧ e = .returned (.tuple #[.slice none 0 0, .int .i64 r.1]))
theorem get_any (h : CacheIn w col c b s db rb mb ns) (hc : 1 < c) (hnm : Norm w col) (ok : s.Ok) (hp : s.d.pending.length ≤ 1073690000) (n : Int) (hn : i64 n) (hfb : ((s.fetch n).2.lastBytes).length ≤ 1073741824) :
    Calls Try.prog 11 #[ptr b, .int .i64 n] w fun e w' => Tells w col c b db (s.fetch n) e w' := by
  have hB := h.block
  have HF := Lib.hid (find_any h hc hnm ok hp n hn)
  have HFB := Lib.hid hfb
  clear h hnm ok hp hn hfb
  unfold ptr at *
  go_enter Try.func11, Try.ntmps11
  go_wp2_with fail
  refine (cmade_any hB).mono ?_
  rintro e w1 ⟨rfl, rfl⟩
  go_wp2_with fail
  refine HF.out.mono ?_
  rintro e w2 ⟨col2, ns2, h2, k2, ⟨hz, m, x, rfl, rfl⟩ | ⟨hz, rfl⟩⟩
  · obtain ⟨p, v, hv, hby⟩ := ring_cells h2.ring
    obtain ⟨-, -, -, -, -, -, x6, -⟩ := cells_node hv
    have hlb := last_bytes h2.fr
    have H2 := Lib.hid h2
    have K2 := Lib.hid k2
    have HZ := Lib.hid hz
    have HBY := Lib.hid hby
    have HLB := Lib.hid hlb
    clear hv hz h2 k2 hby hlb
    unfold ptr
    go_wp2_with fail
    refine (clone_any w2 _ v x.2.bytes HBY.out (by have := HFB.out; rw [HLB.out] at this; exact this)).mono ?_
    rintro e w3 ⟨⟨a, cap, rfl, hsl⟩, k3⟩
    have HSL := Lib.hid hsl
    have K3 := Lib.hid k3
    clear hsl k3
    go_wp2_with fail
    go_ret2
    refine ⟨col2, ⟨_, _, _, H2.out.below K3.out⟩, K2.out.trans (KStep.below K2.out.norm K3.out), Or.inl ⟨HZ.out, ?_⟩⟩
    rw [HLB.out]
    exact ⟨a, cap, rfl, HSL.out.mono (fun k _ e => K2.out.norm k e)⟩
  · have hz' : ((s.fetch n).1 == 0) = false := by simpa using hz
    have H2 := Lib.hid h2
    have K2 := Lib.hid k2
    have HZ := Lib.hid hz
    clear hz h2 k2
    go_wp2_with fail
    go_ret2
    exact ⟨col2, ⟨_, _, _, H2.out⟩, K2.out, Or.inr ⟨HZ.out, rfl⟩⟩
/-- what Pin tells: the bytes of the frame that was used -/
theorem pin_fetch (s : CS) (n : Int) : s.pin n = if (s.fetch n).1 = 0 then (0, (s.fetch n).2.onLast Frm.pin) else s.fetch n := rfl
theorem pin_bytes (s : CS) (g : Frm → Frm) (hg : ∀ f, (g f).bytes = f.bytes) (hne : s.frames ≠ []) : (s.onLast g).lastBytes = s.lastBytes := by
  obtain ⟨m, x, e⟩ : ∃ m x, s.frames = m ++ [x] := ⟨_, _, (List.dropLast_concat_getLast hne).symm⟩
  unfold CS.onLast CS.lastBytes
  rw [e]; simp [hg]
theorem onLast_snoc {s : CS} {m : List (Nat × Frm)} {x : Nat × Frm} (h : (m ++ [x]).map Prod.snd = s.frames) (g : Frm → Frm) : s.onLast g = { s with frames := (m ++ [(x.1, g x.2)]).map Prod.snd } := by
  unfold CS.onLast
  rw [← h]; simp
theorem turn3 {l1 l2 : List (Nat × Frm)} {x : Nat × Frm} (h : CacheIn w col c b s db rb mb (l1 ++ x :: l2)) (hc : 1 < c) (hn : Norm w col) (i : Nat) (u : Value) (f' : Frm) (hs : f'.sector = x.2.sector) (hb : f'.bytes = x.2.bytes) (hset : ∀ p q v, (nodeC p q x.2 v).setIfInBounds i u = nodeC p q f' v) :
    CacheIn (w.setCell ⟨x.1, i, none⟩ u) col c b { s with frames := (l1 ++ (x.1, f') :: l2).map Prod.snd } db rb mb (l1 ++ (x.1, f') :: l2) ∧ KStep c col col w (w.setCell ⟨x.1, i, none⟩ u) := by
  have k1 : Chg (fun j => j = x.1) w (w.setCell ⟨x.1, i, none⟩ u) := (Chg.refl (fun j => j = x.1) w).setCell ⟨x.1, i, none⟩ u (fun _ => rfl)
  obtain ⟨v, hv, hby⟩ := h.node
  have hcx := h.cr _ h.mem
  refine ⟨h.turn hc k1 (v' := v) (by rw [block_set hv, hset]) ?_ hs, KStep.of hn k1 (fun j e => by have e : j = x.1 := e; subst e; unfold inK; omega)⟩
  rw [hb]
  exact hby.chg k1 (fun k e e' => by have e' : k = x.1 := e'; subst e'; omega)
set_option maxHeartbeats 1000000 in
theorem pin_any (h : CacheIn w col c b s db rb mb ns) (hc : 1 < c) (hnm : Norm w col) (ok : s.Ok) (hp : s.d.pending.length ≤ 1073690000) (n : Int) (hn : i64 n) (hfb : ((s.fetch n).2.lastBytes).length ≤ 1073741824) :
    Calls Try.prog 12 #[ptr b, .int .i64 n] w fun e w' => Tells w col c b db (s.pin n) e w' := by
  have hB := h.block
  have HF := Lib.hid (find_any h hc hnm ok hp n hn)
  have HFB := Lib.hid hfb
  clear h hnm ok hp hn hfb
  unfold ptr at *
  go_enter Try.func12, Try.ntmps12
  go_wp2_with fail
  refine (cmade_any hB).mono ?_
  rintro e w1 ⟨rfl, rfl⟩
  go_wp2_with fail
  refine HF.out.mono ?_
  rintro e w2 ⟨col2, ns2, h2, k2, ⟨hz, m, x, rfl, rfl⟩ | ⟨hz, rfl⟩⟩
  · obtain ⟨p, v, hv, hby⟩ := ring_cells h2.ring
    obtain ⟨-, -, -, x3, -, -, x6, xf⟩ := cells_node hv
    have xf3 := xf 3
    have hlb := last_bytes h2.fr
    have hpe : s.pin n = (0, (s.fetch n).2.onLast Frm.pin) := by rw [pin_fetch, if_pos hz]
    rw [onLast_snoc h2.fr] at hpe
    have hlb2 : ({ (s.fetch n).2 with frames := (m ++ [(x.1, x.2.pin)]).map Prod.snd } : CS).lastBytes = x.2.bytes := by unfold CS.lastBytes; simp [Frm.pin]
    have HT := Lib.hid (turn3 h2 hc k2.norm 3 (.int .i64 (wrap64 (x.2.pins + 1))) x.2.pin rfl rfl (fun _ _ _ => rfl))
    have hcx := h2.cr _ (h2.mem (x := x) (l2 := []))
    have HBY := Lib.hid (hby.chg ((Chg.refl (fun j => j = x.1) w2).setCell ⟨x.1, 3, none⟩ (.int .i64 (wrap64 (x.2.pins + 1))) (fun _ => rfl)) (fun k e e' => by have e' : k = x.1 := e'; subst e'; omega))
    have K2 := Lib.hid k2
    have HLB := Lib.hid hlb
    have HLB2 := Lib.hid hlb2
    have HPE := Lib.hid hpe
    clear hv hz h2 k2 hby hlb hlb2 hpe xf
    unfold ptr
    go_wp2_with fail
    refine (clone_any _ _ v x.2.bytes HBY.out (by have := HFB.out; rw [HLB.out] at this; exact this)).mono ?_
    rintro e w3 ⟨⟨a, cap, rfl, hsl⟩, k3⟩
    have HSL := Lib.hid hsl
    have K3 := Lib.hid k3
    clear hsl k3
    go_wp2_with fail
    go_ret2
    rw [HPE.out]
    refine ⟨col2, ⟨_, _, _, HT.out.1.below K3.out⟩, K2.out.trans (HT.out.2.trans (KStep.below HT.out.2.norm K3.out)), Or.inl ⟨rfl, ?_⟩⟩
    simp only
    rw [HLB2.out]
    exact ⟨a, cap, rfl, HSL.out.mono (fun k _ e => HT.out.2.norm k e)⟩
  · have hz' : ((s.fetch n).1 == 0) = false := by simpa using hz
    have hpe : s.pin n = s.fetch n := by rw [pin_fetch, if_neg hz]
    have HPE := Lib.hid hpe
    have H2 := Lib.hid h2
    have K2 := Lib.hid k2
    have HZ := Lib.hid hz
    clear hz h2 k2 hpe
    go_wp2_with fail
    go_ret2
    rw [HPE.out]
    exact ⟨col2, ⟨_, _, _, H2.out⟩, K2.out, Or.inr ⟨HZ.out, rfl⟩⟩
set_option maxHeartbeats 1000000 in
theorem unpin_any (h : CacheIn w col c b s db rb mb ns) (hc : 1 < c) (hnm : Norm w col) (ok : s.Ok) (n : Int) (hn : i64 n) :
    Calls Try.prog 13 #[ptr b, .int .i64 n] w fun e w' => e = .returned (.int .i64 (s.unpin n).1) ∧ Now w col c b db (s.unpin n).2 w' (fun _ => True) := by
  have hB := h.block
  obtain ⟨-, -, -, c3, -, -, -, -, -⟩ := cells_cache h.block
  have hlk := look_run h.map n hn
  have hlook := find_look h.fr n
  have ha := apart_of_ok ok h.fr
  cases hf : ns.find? (fun x => Frm.is n x.2) with
  | none =>
    rw [hf] at hlk hlook
    have hu : s.unpin n = (81, s) := by unfold CS.unpin; rw [hlook]; rfl
    have HU := Lib.hid hu
    have H := Lib.hid h
    have HNM := Lib.hid hnm
    clear hu h hnm ha ok hn hlook hf
    simp only at hlk
    unfold ptr at *
    go_enter Try.func13, Try.ntmps13
    go_wp2_with fail
    refine (cmade_any hB).mono ?_
    rintro e w1 ⟨rfl, rfl⟩
    go_wp2_with fail
    go_ret
    rw [HU.out]
    exact ⟨rfl, col, ⟨_, _, _, H.out⟩, KStep.refl c HNM.out, trivial⟩
  | some x =>
    rw [hf] at hlk hlook
    obtain ⟨hxm, hxn⟩ : x ∈ ns ∧ x.2.sector = n := ⟨List.mem_of_find?_eq_some hf, by have := List.find?_some hf; simpa [Frm.is] using this⟩
    clear hf
    obtain ⟨l1, l2, rfl⟩ := List.append_of_mem hxm
    obtain ⟨p, v, hv, _⟩ := ring_cells h.ring
    obtain ⟨-, -, -, x3, -, -, -, xf⟩ := cells_node hv
    have xf3 := xf 3
    simp only at hlk
    by_cases hp : x.2.pins = 0
    · have hu : s.unpin n = (81, s) := by unfold CS.unpin; rw [hlook]; show (if x.2.pins = 0 then _ else _) = _; rw [if_pos hp]
      have hp' : (x.2.pins == 0) = true := by simp [hp]
      have HU := Lib.hid hu
      have H := Lib.hid h
      have HNM := Lib.hid hnm
      clear hu h hnm ha ok hn hlook hv xf hxn hxm hp
      unfold ptr at *
      go_enter Try.func13, Try.ntmps13
      go_wp2_with fail
      refine (cmade_any hB).mono ?_
      rintro e w1 ⟨rfl, rfl⟩
      go_wp2_with fail
      go_ret
      rw [HU.out]
      exact ⟨rfl, col, ⟨_, _, _, H.out⟩, KStep.refl c HNM.out, trivial⟩
    · have hmap : s.frames.map (fun g => if Frm.is n g then g.unpin else g) = (l1 ++ (x.1, x.2.unpin) :: l2).map Prod.snd := by
        have hm := apart_mid ha
        rw [hxn] at hm
        rw [← h.fr]
        simp only [List.map_append, List.map_cons, List.map_map]
        have e : ∀ l : List (Nat × Frm), (∀ y ∈ l, Frm.is n y.2 = false) → l.map ((fun g => if Frm.is n g then g.unpin else g) ∘ Prod.snd) = l.map Prod.snd := fun l hl => List.map_congr_left (fun y hy => by simp [Function.comp, hl y hy])
        rw [e l1 (fun y hy => hm y (List.mem_append_left _ hy)), e l2 (fun y hy => hm y (List.mem_append_right _ hy)), if_pos (by simp [Frm.is, hxn])]
      have hu : s.unpin n = (0, { s with frames := (l1 ++ (x.1, x.2.unpin) :: l2).map Prod.snd }) := by unfold CS.unpin; rw [hlook, hmap]; show (if x.2.pins = 0 then _ else _) = _; rw [if_neg hp]
      have hp' : (x.2.pins == 0) = false := by simp [hp]
      have HT := Lib.hid (turn3 h hc hnm 3 (.int .i64 (wrap64 (x.2.pins - 1))) x.2.unpin rfl rfl (fun _ _ _ => rfl))
      have HU := Lib.hid hu
      have H := Lib.hid h
      have HNM := Lib.hid hnm
      clear hu h hnm ha ok hn hlook hv xf hxn hxm hp hmap
      unfold ptr at *
      go_enter Try.func13, Try.ntmps13
      go_wp2_with fail
      refine (cmade_any hB).mono ?_
      rintro e w1 ⟨rfl, rfl⟩
      go_wp2_with fail
      go_ret
      rw [HU.out]
      exact ⟨rfl, col, ⟨_, _, _, HT.out.1⟩, HT.out.2, trivial⟩
end
end Go.Proofs.Ytjjgihaikcnjgaa
