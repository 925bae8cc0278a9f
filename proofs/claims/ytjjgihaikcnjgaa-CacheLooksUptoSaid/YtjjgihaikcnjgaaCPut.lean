/-
  Put of package cache.
-/
import Derived.Test.YtjjgihaikcnjgaaCGet
namespace Go.Proofs.Ytjjgihaikcnjgaa
open Go.RowKit Go.Maps
set_option linter.unusedSimpArgs false
set_option linter.unusedVariables false
set_option maxRecDepth 100000

section
variable {w : World} {col : Nat → Nat} {c b db rb mb : Nat} {s : CS} {ns : List (Nat × Frm)}
theorem put_turn {m : List (Nat × Frm)} {x : Nat × Frm} (h : CacheIn w col c b s db rb mb (m ++ [x])) (hc : 1 < c) (hn : Norm w col) (v : Value) (l : List Int) (o : Int) (hby : BytesAt w (fun k => col k = 1) v l) :
    CacheIn (((w.setCell ⟨x.1, 6, none⟩ v).setCell ⟨x.1, 4, none⟩ (.bool true)).setCell ⟨x.1, 5, none⟩ (.int .u64 o)) col c b { s with frames := (m ++ [(x.1, (⟨x.2.sector, x.2.pins, true, o, l⟩ : Frm))]).map Prod.snd } db rb mb (m ++ [(x.1, (⟨x.2.sector, x.2.pins, true, o, l⟩ : Frm))]) ∧
      KStep c col col w (((w.setCell ⟨x.1, 6, none⟩ v).setCell ⟨x.1, 4, none⟩ (.bool true)).setCell ⟨x.1, 5, none⟩ (.int .u64 o)) := by
  have k1 : Chg (fun j => j = x.1) w (((w.setCell ⟨x.1, 6, none⟩ v).setCell ⟨x.1, 4, none⟩ (.bool true)).setCell ⟨x.1, 5, none⟩ (.int .u64 o)) :=
    (((Chg.refl (fun j => j = x.1) w).setCell ⟨x.1, 6, none⟩ v (fun _ => rfl)).setCell ⟨x.1, 4, none⟩ (.bool true) (fun _ => rfl)).setCell ⟨x.1, 5, none⟩ (.int .u64 o) (fun _ => rfl)
  obtain ⟨v0, hv, _⟩ := h.node
  have hcx := h.cr _ h.mem
  exact ⟨h.turn hc k1 (f' := ⟨x.2.sector, x.2.pins, true, o, l⟩) (v' := v) (by rw [block_set (block_set (block_set hv 6 v) 4 (.bool true)) 5 (.int .u64 o)]; rfl) (hby.chg k1 (fun k e e' => by have e' : k = x.1 := e'; subst e'; omega)) rfl, KStep.of hn k1 (fun j e => by have e : j = x.1 := e; subst e; unfold inK; omega)⟩
set_option maxHeartbeats 2000000 in
theorem cput_bad (h : CacheIn w col c b s db rb mb ns) (hc : 1 < c) (hnm : Norm w col) (ok : s.Ok) (n : Int) (hn : i64 n) (v : Value) (l : List Int) (o : Int) (hv : RdAt w (Nil0 col) 1 v l.length (bcells l)) (hbad : ¬ (0 ≤ n ∧ n < s.d.count ∧ (l.length : Int) = s.d.size)) :
    Calls Try.prog 14 #[ptr b, .int .i64 n, v, .int .u64 o] w fun e w' => e = .returned (.int .i64 30) ∧ w = w' := by
  have hB := h.block
  obtain ⟨c0, -, -, -, -, -, -, -, -⟩ := cells_cache h.block
  obtain ⟨pa, pcap, qa, qn, qcap, qs, hd⟩ := h.disk
  have hs0 : 0 < s.d.size := by have := ok.d.size0; omega
  have HC := Lib.hid (count_any hd hs0)
  have HS := Lib.hid (size_any hd hs0)
  obtain ⟨a, cap, rfl, _⟩ := hv.shape
  have hside : n < 0 ∨ (¬ n < 0 ∧ s.d.count ≤ n) ∨ (¬ n < 0 ∧ ¬ s.d.count ≤ n ∧ ((l.length : Int) != s.d.size) = true) := by
    by_cases h1 : n < 0
    · exact Or.inl h1
    · by_cases h2 : s.d.count ≤ n
      · exact Or.inr (Or.inl ⟨h1, h2⟩)
      · refine Or.inr (Or.inr ⟨h1, h2, ?_⟩)
        simp; intro e; exact hbad ⟨by omega, by omega, e⟩
  clear h hd hs0 hbad hn ok hv hnm
  unfold ptr at *
  rcases hside with h1 | ⟨h1, h2⟩ | ⟨h1, h2, h3⟩
  · go_enter Try.func14, Try.ntmps14
    go_wp2_with fail
    refine (cmade_any hB).mono ?_
    rintro e w1 ⟨rfl, rfl⟩
    go_wp2_with fail
    go_ret
    exact ⟨rfl, rfl⟩
  · go_enter Try.func14, Try.ntmps14
    go_wp2_with fail
    refine (cmade_any hB).mono ?_
    rintro e w1 ⟨rfl, rfl⟩
    go_wp2_with fail
    refine HC.out.mono ?_
    rintro e w1 ⟨rfl, rfl⟩
    go_wp2_with fail
    go_ret
    exact ⟨rfl, rfl⟩
  · go_enter Try.func14, Try.ntmps14
    go_wp2_with fail
    refine (cmade_any hB).mono ?_
    rintro e w1 ⟨rfl, rfl⟩
    go_wp2_with fail
    refine HC.out.mono ?_
    rintro e w1 ⟨rfl, rfl⟩
    go_wp2_with fail
    refine HS.out.mono ?_
    rintro e w1 ⟨rfl, rfl⟩
    go_wp2_with fail
    go_ret
    exact ⟨rfl, rfl⟩
def PutTells (w : World) (col : Nat → Nat) (c b db : Nat) (r : Int × CS) (e : Ending) (w' : World) : Prop := e = .returned (.int .i64 r.1) ∧ Now w col c b db r.2 w' (fun _ => True)
set_option maxHeartbeats 4000000 in
theorem cput_ok (h : CacheIn w col c b s db rb mb ns) (hc : 1 < c) (hnm : Norm w col) (ok : s.Ok) (hp : s.d.pending.length ≤ 1073690000) (n : Int) (hn : i64 n) (v : Value) (l : List Int) (o : Int) (hv : RdAt w (Nil0 col) 1 v l.length (bcells l)) (hfit : 0 ≤ n ∧ n < s.d.count ∧ (l.length : Int) = s.d.size) :
    Calls Try.prog 14 #[ptr b, .int .i64 n, v, .int .u64 o] w fun e w' => PutTells w col c b db (s.put n l o) e w' := by
  have hB := h.block
  obtain ⟨c0, -, -, c3, -, -, -, -, -⟩ := cells_cache h.block
  obtain ⟨pa, pcap, qa, qn, qcap, qs, hd⟩ := h.disk
  have hs0 : 0 < s.d.size := by have := ok.d.size0; omega
  have HC := Lib.hid (count_any hd hs0)
  have HS := Lib.hid (size_any hd hs0)
  obtain ⟨a, cap, rfl, _⟩ := hv.shape
  have hlk := look_run h.map n hn
  have hlook := find_look h.fr n
  have ha := apart_of_ok ok h.fr
  have f1 : ¬ n < 0 := by omega
  have f2 : ¬ s.d.count ≤ n := by omega
  have f3 : ((l.length : Int) != s.d.size) = false := by simp [hfit.2.2]
  have hll : l.length ≤ 1073741824 := by have := ok.d.size1; omega
  have HLL := Lib.hid hll
  have HV := Lib.hid hv
  have HNM := Lib.hid hnm
  have H := Lib.hid h
  have HA := Lib.hid ha
  have HOK := Lib.hid ok
  have HP := Lib.hid hp
  have HFIT := Lib.hid hfit
  cases hf : ns.find? (fun x => Frm.is n x.2) with
  | some x =>
    rw [hf] at hlk hlook
    obtain ⟨hxm, hxn⟩ : x ∈ ns ∧ x.2.sector = n := ⟨List.mem_of_find?_eq_some hf, by have := List.find?_some hf; simpa [Frm.is] using this⟩
    clear hf
    obtain ⟨l1, l2, rfl⟩ := List.append_of_mem hxm
    obtain ⟨p, v1, hv1, _⟩ := ring_cells h.ring
    obtain ⟨-, -, -, -, x4, x5, -, -⟩ := cells_node hv1
    simp only at hlk
    have hput : s.put n l o = (if x.2.dirty = true ∧ o < x.2.order then (80, s) else (0, { s with frames := s.rest n ++ [⟨n, x.2.pins, true, o, l⟩] })) := by
      unfold CS.put; rw [if_pos hfit, hlook]; rfl
    have HPUT := Lib.hid hput
    have HXN := Lib.hid hxn
    by_cases hb : x.2.dirty = true ∧ o < x.2.order
    · have HB := Lib.hid hb
      obtain ⟨b1, b2⟩ := hb
      rw [b1] at x4
      clear h hd hs0 hfit hn ok hv hnm ha hll hp hlook hput hv1 hxm hxn b1
      unfold ptr at *
      go_enter Try.func14, Try.ntmps14
      go_wp2_with fail
      refine (cmade_any hB).mono ?_
      rintro e w1 ⟨rfl, rfl⟩
      go_wp2_with fail
      refine HC.out.mono ?_
      rintro e w1 ⟨rfl, rfl⟩
      go_wp2_with fail
      refine HS.out.mono ?_
      rintro e w1 ⟨rfl, rfl⟩
      go_wp2_with fail
      go_ret
      unfold PutTells
      rw [HPUT.out, if_pos HB.out]
      exact ⟨rfl, col, ⟨_, _, _, H.out⟩, KStep.refl c HNM.out, trivial⟩
    · have hside : x.2.dirty = false ∨ (x.2.dirty = true ∧ ¬ o < x.2.order) := by
        cases hd : x.2.dirty with
        | false => exact Or.inl rfl
        | true => exact Or.inr ⟨rfl, fun e => hb ⟨hd, e⟩⟩
      have HB := Lib.hid hb
      clear h hd hs0 hfit hn ok hv hnm ha hll hp hlook hput hv1 hxm hxn hb
      unfold ptr at *
      rcases hside with b1 | ⟨b1, b2⟩
      all_goals
        rw [b1] at x4
        clear b1
        go_enter Try.func14, Try.ntmps14
        go_wp2_with fail
        refine (cmade_any hB).mono ?_
        rintro e w1 ⟨rfl, rfl⟩
        go_wp2_with fail
        refine HC.out.mono ?_
        rintro e w1 ⟨rfl, rfl⟩
        go_wp2_with fail
        refine HS.out.mono ?_
        rintro e w1 ⟨rfl, rfl⟩
        go_wp2_with fail
        refine (use_any H.out hc HA.out HNM.out).mono ?_
        rintro e w2 ⟨rfl, h2, k2⟩
        have HV2 := Lib.hid (k2.rd hc HV.out)
        have H2 := Lib.hid h2
        have K2 := Lib.hid k2
        clear h2 k2 x4 x5 c0 c3 hlk
        go_wp2_with fail
        refine (clone_any w2 _ _ l HV2.out HLL.out).mono ?_
        rintro e w3 ⟨⟨a3, cap3, rfl, hsl⟩, k3⟩
        have hext := col1_ext col w2.heap.size w3.heap.size
        have st3 : KStep c col (col1 col w2.heap.size w3.heap.size) w2 w3 := ⟨hext, Chg.of_below k3, fun k hk => by unfold col1; rw [if_neg (by have := k3.size; omega), if_neg (by omega)]⟩
        have h3 := H2.out.keep (fun i hi _ => k3.block i hi) hext k3.size
        have hby3 : BytesAt w3 (fun k => col1 col w2.heap.size w3.heap.size k = 1) (.slice a3 l.length cap3) l := RdAt.mono hsl.rd (fun k hk e => by unfold col1; rw [if_neg (by omega), if_pos hk])
        obtain ⟨p4, v4, hv4, _⟩ := ring_cells h3.ring
        obtain ⟨-, -, -, -, y4, y5, y6, yf⟩ := cells_node hv4
        have yf4 := yf 4
        have yf5 := yf 5
        have yf6 := yf 6
        have HT := Lib.hid (put_turn h3 hc st3.norm (.slice a3 l.length cap3) l o hby3)
        have ST3 := Lib.hid st3
        clear hext st3 h3 hby3 hsl hv4 yf
        go_wp2_with fail
        go_ret
        unfold PutTells
        rw [HPUT.out, if_neg HB.out]
        refine ⟨rfl, col1 col w2.heap.size w3.heap.size, ⟨rb, mb, l1 ++ l2 ++ [(x.1, (⟨x.2.sector, x.2.pins, true, o, l⟩ : Frm))], ?_⟩, K2.out.trans (ST3.out.trans HT.out.2), trivial⟩
        have hre : s.rest n ++ [(⟨n, x.2.pins, true, o, l⟩ : Frm)] = (l1 ++ l2 ++ [(x.1, (⟨x.2.sector, x.2.pins, true, o, l⟩ : Frm))]).map Prod.snd := by
          rw [rest_split H.out.fr HA.out n HXN.out.symm, HXN.out]; simp
        simp only
        rw [hre]
        exact HT.out.1
  | none =>
    rw [hf] at hlk hlook
    simp only at hlk
    have hno := look_none hlook
    have hput : s.put n l o = (if s.made.1 = 0 then (0, s.made.2.added ⟨n, 0, true, o, l⟩) else s.made) := by
      unfold CS.put; rw [if_pos hfit, hlook]; rfl
    have HPUT := Lib.hid hput
    have HNO := Lib.hid hno
    have HMK := Lib.hid (made_Ok ok)
    have HCN := Lib.hid ok.d.count1
    clear h hd hs0 hfit hn ok hv hnm ha hll hp hlook hput hf hno
    unfold ptr at *
    go_enter Try.func14, Try.ntmps14
    go_wp2_with fail
    refine (cmade_any hB).mono ?_
    rintro e w1 ⟨rfl, rfl⟩
    go_wp2_with fail
    refine HC.out.mono ?_
    rintro e w1 ⟨rfl, rfl⟩
    go_wp2_with fail
    refine HS.out.mono ?_
    rintro e w1 ⟨rfl, rfl⟩
    go_wp2_with fail
    refine (room_any H.out hc HNM.out HOK.out (by have := HP.out; omega)).mono ?_
    rintro e w1 ⟨rfl, col1', ns1, h1, k1⟩
    by_cases hz : s.made.1 = 0
    · have hfe := HPUT.out
      rw [if_pos hz] at hfe
      have HFE := Lib.hid hfe
      have hmr := HMK.out.room hz
      have hml : ns1.length ≤ 4096 := by
        have e1 := congrArg List.length h1.fr
        have e2 := HMK.out.ok.room1
        simp at e1
        omega
      have hno1 : ∀ y ∈ ns1, Frm.is n y.2 = false := fun y hy => by
        have hm : y.2 ∈ s.made.2.frames := by rw [← h1.fr]; exact List.mem_map_of_mem hy
        obtain ⟨g, hg, e⟩ := HMK.out.sub _ hm
        have := HNO.out g hg
        simp [Frm.is]; rw [e]; exact this
      have hap1 : Apart (ns1 ++ [(w1.heap.size, (⟨n, 0, false, 0, []⟩ : Frm))]) := by
        have h9 := apart_of_ok HMK.out.ok h1.fr
        unfold Apart at *
        rw [List.map_append, List.nodup_append]
        refine ⟨h9, by simp, fun x hx y hy e => ?_⟩
        obtain ⟨z, hz, rfl⟩ := List.mem_map.1 hx
        simp at hy
        have := hno1 z hz
        simp [Frm.is] at this
        exact this (e.trans hy)
      have HV1 := Lib.hid (k1.rd hc HV.out)
      have H1 := Lib.hid h1
      have K1 := Lib.hid k1
      have HN1 := Lib.hid hno1
      have HL1 := Lib.hid hml
      have HA1 := Lib.hid hap1
      have hz' : (s.made.1 == 0) = true := by simp [hz]
      have hz0 : s.made.1 = 0 := hz
      clear hfe hmr hml hno1 h1 k1 hap1 c0 c3 hlk hz
      go_wp2_with fail
      refine (add_any H1.out hc K1.out.norm HL1.out n (.slice none 0 0) [] ⟨by simp, _, _, rfl, Nat.le_refl _, by unfold maxLen; omega, fun h => by simp at h⟩ (by have := HFIT.out; have := HCN.out; omega) HN1.out).mono ?_
      rintro e w2 ⟨rfl, h2, k2⟩
      have HV2 := Lib.hid (k2.rd hc HV1.out)
      have H2 := Lib.hid h2
      have K2 := Lib.hid k2
      clear h2 k2
      unfold ptr
      go_wp2_with fail
      refine (use_any (l2 := []) H2.out hc HA1.out K2.out.norm).mono ?_
      rintro e w3 ⟨rfl, h3, k3⟩
      have HV3 := Lib.hid (k3.rd hc HV2.out)
      have H3 := Lib.hid h3
      have K3 := Lib.hid k3
      clear h3 k3
      go_wp2_with fail
      refine (clone_any w3 _ _ l HV3.out HLL.out).mono ?_
      rintro e w4 ⟨⟨a3, cap3, rfl, hsl⟩, k4⟩
      generalize hcA : colA col1' w1.heap.size c = colA at *
      have hext := col1_ext colA w3.heap.size w4.heap.size
      have st4 : KStep c colA (col1 colA w3.heap.size w4.heap.size) w3 w4 := ⟨hext, Chg.of_below k4, fun k hk => by unfold col1; rw [if_neg (by have := k4.size; omega), if_neg (by omega)]⟩
      have h4 := H3.out.keep (fun i hi _ => k4.block i hi) hext k4.size
      have hby4 : BytesAt w4 (fun k => col1 colA w3.heap.size w4.heap.size k = 1) (.slice a3 l.length cap3) l := RdAt.mono hsl.rd (fun k hk e => by unfold col1; rw [if_neg (by omega), if_pos hk])
      obtain ⟨p4, v4, hv4, _⟩ := ring_cells h4.ring
      obtain ⟨-, -, -, -, y4, y5, y6, yf⟩ := cells_node hv4
      have yf4 := yf 4
      have yf5 := yf 5
      have yf6 := yf 6
      have HT := Lib.hid (put_turn h4 hc st4.norm (.slice a3 l.length cap3) l o hby4)
      have ST4 := Lib.hid st4
      clear hext st4 h4 hby4 hsl hv4 yf
      go_wp2_with fail
      go_ret
      unfold PutTells
      rw [HFE.out]
      refine ⟨rfl, col1 colA w3.heap.size w4.heap.size, ⟨rb, mb, ns1 ++ [] ++ [(w1.heap.size, (⟨n, 0, true, o, l⟩ : Frm))], ?_⟩, K1.out.trans (K2.out.trans (K3.out.trans (ST4.out.trans HT.out.2))), trivial⟩
      have hre : s.made.2.frames ++ [(⟨n, 0, true, o, l⟩ : Frm)] = (ns1 ++ [] ++ [(w1.heap.size, (⟨n, 0, true, o, l⟩ : Frm))]).map Prod.snd := by
        rw [← H1.out.fr]; simp
      unfold CS.added
      simp only
      rw [hre]
      exact HT.out.1
    · have hfe := HPUT.out
      rw [if_neg hz] at hfe
      have HFE := Lib.hid hfe
      have H1 := Lib.hid h1
      have K1 := Lib.hid k1
      have hz' : (s.made.1 == 0) = false := by simpa using hz
      clear hfe h1 k1 hz
      go_wp2_with fail
      go_ret
      unfold PutTells
      rw [HFE.out]
      exact ⟨rfl, col1', ⟨_, _, _, H1.out⟩, K1.out, trivial⟩
end
end Go.Proofs.Ytjjgihaikcnjgaa
