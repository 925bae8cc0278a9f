/-
  makeRoom of package cache.
-/
import Derived.Test.YtjjgihaikcnjgaaCUpTo
import Derived.Test.YtjjgihaikcnjgaaCAdd
import Derived.Deep.QuietTactic
import Derived.BigQuiet
namespace Go.Proofs.Ytjjgihaikcnjgaa
open Go.RowKit Go.Maps
set_option linter.unusedSimpArgs false
set_option linter.unusedVariables false
set_option maxRecDepth 100000

theorem foldN_pairs : ∀ (M ns : List (Nat × Frm)), (foldN ns M).map (fun x => (x.1, x.2.sector)) = ns.map (fun x => (x.1, x.2.sector))
  | [], ns => rfl
  | y :: M, ns => by
    show (foldN (step1N ns y) M).map _ = _
    rw [foldN_pairs M]
    unfold step1N
    rw [List.map_map]
    refine List.map_congr_left (fun x _ => ?_)
    simp only [Function.comp]; split <;> rfl
theorem foldN_split {ns M : List (Nat × Frm)} {x : Nat × Frm} (hx : x ∈ ns) : ∃ l1 f' l2, foldN ns M = l1 ++ (x.1, f') :: l2 ∧ f'.sector = x.2.sector := by
  have h := List.mem_map_of_mem (f := fun x : Nat × Frm => (x.1, x.2.sector)) hx
  rw [← foldN_pairs M ns] at h
  obtain ⟨y, hy, e⟩ := List.mem_map.1 h
  obtain ⟨l1, l2, hs⟩ := List.append_of_mem hy
  simp only [Prod.mk.injEq] at e
  exact ⟨l1, y.2, l2, by rw [hs, ← e.1], e.2⟩
theorem rest_split {s : CS} {l1 l2 : List (Nat × Frm)} {x : Nat × Frm} (hf : (l1 ++ x :: l2).map Prod.snd = s.frames) (ha : Apart (l1 ++ x :: l2)) (n : Int) (hn : n = x.2.sector) : s.rest n = (l1 ++ l2).map Prod.snd := by
  subst hn
  have hm := apart_mid ha
  unfold CS.rest
  rw [← hf, List.map_append, List.map_cons, List.filter_append, List.filter_cons, Frm.is_self, List.map_append]
  have e : ∀ l : List (Nat × Frm), (∀ y ∈ l, Frm.is x.2.sector y.2 = false) → (l.map Prod.snd).filter (fun f => !Frm.is x.2.sector f) = l.map Prod.snd := fun l hl => by
    rw [List.filter_eq_self]
    intro f hf
    obtain ⟨y, hy, rfl⟩ := List.mem_map.1 hf
    simp [hl y hy]
  rw [e l1 (fun y hy => hm y (List.mem_append_left _ hy))]
  simp only [Bool.not_true, Bool.false_eq_true, if_false]
  rw [e l2 (fun y hy => hm y (List.mem_append_right _ hy))]
theorem old_split {s : CS} {l1 l2 : List (Nat × Frm)} {x : Nat × Frm} (hf : (l1 ++ x :: l2).map Prod.snd = s.frames) (h1 : ∀ y ∈ l1, y.2.pins ≠ 0) (h2 : x.2.pins = 0) : s.old = some x.2 := by
  unfold CS.old
  rw [← hf, List.map_append, List.map_cons, List.find?_append, List.find?_cons]
  have : (l1.map Prod.snd).find? (fun f => f.pins == 0) = none := by
    rw [List.find?_eq_none]
    intro f hf
    obtain ⟨y, hy, rfl⟩ := List.mem_map.1 hf
    simpa using h1 y hy
  rw [this]; simp [h2]
theorem old_none {s : CS} {ns : List (Nat × Frm)} (hf : ns.map Prod.snd = s.frames) (h1 : ∀ y ∈ ns, y.2.pins ≠ 0) : s.old = none := by
  unfold CS.old
  rw [← hf, List.find?_eq_none]
  intro f hf
  obtain ⟨y, hy, rfl⟩ := List.mem_map.1 hf
  simpa using h1 y hy
theorem len_run {w : World} {mb : Nat} {ns : List (Nat × Frm)} (h : MapAt w mb ns) : (Builtin.len_ #[54] 3 #[.map (some mb)]).run Try.prog w = .ok (.int .i64 ns.length) w := by
  obtain ⟨D, hown, hD⟩ := h
  rw [← hD.size]
  exact hown.len Try.underlying54 3
section
variable {w : World} {col : Nat → Nat} {c b db rb mb : Nat} {s : CS} {ns : List (Nat × Frm)}
def RoomTells (w : World) (col : Nat → Nat) (c b db rb mb : Nat) (t : CS) (w' : World) : Prop := ∃ col' ns', CacheIn w' col' c b t db rb mb ns' ∧ KStep c col col' w w'
theorem upTo_gone (s : CS) (o : Int) : (s.upTo o).gone = s.gone := by
  unfold CS.upTo
  generalize s.due o = L
  induction L generalizing s with
  | nil => rfl
  | cons f L ih => exact ih (s.write1 f)
theorem room_end {w : World} {col : Nat → Nat} {ns : List (Nat × Frm)} {t : CS} {g : Int} (h : CacheIn w col c b t db rb mb ns) (hc : 1 < c) (hn : Norm w col) (s1 : CS) (n : Int) (ht : t = { s1 with frames := ns.map Prod.snd }) (hr : s1.rest n = ns.map Prod.snd) (hg : s1.gone = g) :
    CacheIn (w.setCell ⟨b, 7, none⟩ (.int .i64 (wrap64 (g + 1)))) col c b { (s1.drop1 n) with gone := wrap64 (g + 1) } db rb mb ns ∧ KStep c col col w (w.setCell ⟨b, 7, none⟩ (.int .i64 (wrap64 (g + 1)))) := by
  have k2 : Chg (fun i => i = b) w (w.setCell ⟨b, 7, none⟩ (.int .i64 (wrap64 (g + 1)))) := (Chg.refl (fun i => i = b) _).setCell ⟨b, 7, none⟩ _ (fun _ => rfl)
  have hcb := h.cb
  subst ht
  refine ⟨h.cells hc k2 (by rw [block_set h.block 7]; rfl) rfl ?_, KStep.of hn k2 (fun i e => by subst e; unfold inK; omega)⟩
  show s1.rest n = _
  rw [hr]
set_option maxHeartbeats 2000000 in
theorem room_any (h : CacheIn w col c b s db rb mb ns) (hc : 1 < c) (hnm : Norm w col) (ok : s.Ok) (hp : s.d.pending.length ≤ 1073700000) :
    Calls Try.prog 37 #[ptr b] w fun e w' => e = .returned (.int .i64 s.made.1) ∧ RoomTells w col c b db rb mb s.made.2 w' := by
  have hlen : (s.frames.length : Int) = ns.length := by have := congrArg List.length h.fr; simp at this; omega
  obtain ⟨-, c1, -, c3, -, -, -, -, -⟩ := cells_cache h.block
  have hl : (Builtin.len_ #[54] 3 #[.map (some mb)]).run Try.prog w.drew = .ok (.int .i64 ns.length) w.drew := len_run (w := w.drew) (h.map.keep rfl)
  by_cases h1 : (ns.length : Int) < s.room
  · have hm : s.made = (0, s) := by unfold CS.made; rw [if_pos (by omega)]
    rw [hm]
    have H := Lib.hid h
    have HK := Lib.hid (KStep.refl c hnm)
    clear h hm hlen ok hnm
    unfold ptr
    go_enter Try.func37, Try.ntmps37
    go_wp2_with fail
    go_still (by kernel_rfl)
    go_wp2_with fail
    go_ret
    exact ⟨rfl, col, ns, H.out.keep (fun _ _ _ => rfl) (Ext.refl _ _) (Nat.le_refl _), HK.out.ext, ⟨HK.out.chg.os, HK.out.chg.tape, HK.out.chg.output, HK.out.chg.size, HK.out.chg.block⟩, HK.out.norm⟩
  · have hge : ¬ (s.frames.length : Int) < s.room := by omega
    have H := Lib.hid h
    have HNM := Lib.hid hnm
    have HOK := Lib.hid ok
    have HP := Lib.hid hp
    have HGE := Lib.hid hge
    have hold := oldest_any (w := w.drew) h.drew
    have HO := Lib.hid hold
    have h2 := h1
    clear h hlen ok hnm hp hge hold
    unfold ptr at *
    go_enter Try.func37, Try.ntmps37
    go_wp2_with fail
    go_still (by kernel_rfl)
    go_wp2_with fail
    refine (HO.out).mono ?_
    rintro e w2 ⟨rfl, ⟨rfl, hall⟩ | ⟨l1, x, l2, rfl, hl1, hx, rfl⟩⟩
    · have hm : s.made = (2, s) := by unfold CS.made; rw [if_neg (by have := HGE.out; omega), old_none H.out.fr hall]
      have HM := Lib.hid hm
      clear hm hall
      go_wp2_with fail
      go_ret
      rw [HM.out]
      exact ⟨rfl, col, ns, H.out.drew, (KStep.refl c HNM.out).drew⟩
    · have hm : s.made = (0, { ((if x.2.dirty then s.upTo x.2.order else s).drop1 x.2.sector) with gone := wrap64 (s.gone + 1) }) := by unfold CS.made; rw [if_neg (by have := HGE.out; omega), old_split H.out.fr hl1 hx]
      obtain ⟨p, v, hv, _⟩ := ring_cells H.out.drew.ring
      obtain ⟨-, -, -, -, x4, x5, -, -⟩ := cells_node hv
      have hxs : 0 ≤ x.2.sector ∧ x.2.sector < 4097 := by
        have hx : x.2 ∈ s.frames := by rw [← H.out.fr]; exact List.mem_map_of_mem (by simp)
        have := HOK.out.at0 _ hx
        have := HOK.out.d.count1
        omega
      have HM := Lib.hid hm
      have HXS := Lib.hid hxs
      have HAP := Lib.hid (apart_of_ok HOK.out H.out.fr)
      clear hm hl1 hx hv hxs
      unfold ptr at *
      cases hd : x.2.dirty with
      | true =>
        rw [hd] at x4
        have HD := Lib.hid hd
        clear hd
        go_wp2_with fail
        refine (upTo_any (w := w.drew) H.out.drew hc (HNM.out.grow (Nat.le_refl _)) HOK.out HP.out x.2.order).mono ?_
        rintro e w3 ⟨rfl, col3, h3, k3⟩
        obtain ⟨m1, f', m2, hsp, hfs⟩ := foldN_split (M := dueN (l1 ++ x :: l2) x.2.order) (show x ∈ l1 ++ x :: l2 by simp)
        have ha3 : Apart (foldN (l1 ++ x :: l2) (dueN (l1 ++ x :: l2) x.2.order)) := foldN_apart HAP.out
        rw [hsp] at h3 ha3
        have H3 := Lib.hid h3
        have HFS := Lib.hid hfs
        have HA3 := Lib.hid ha3
        have K3 := Lib.hid k3
        clear h3 hfs ha3 k3 hsp x4 x5 c1 c3
        go_wp2_with fail
        refine (drop_any (x := (x.1, f')) H3.out hc HA3.out K3.out.norm (by have := HXS.out; have := HFS.out; simp only; omega)).mono ?_
        rintro e w4 ⟨rfl, h4, k4, _⟩
        obtain ⟨-, -, -, -, -, -, -, c7, cf⟩ := cells_cache h4.block
        have cf7 := cf 7
        have H4 := Lib.hid h4
        have K4 := Lib.hid k4
        clear h4 k4 cf
        simp only at c7
        go_wp2_with fail
        go_ret
        rw [HM.out]
        have hgone : (s.upTo x.2.order).gone = s.gone := upTo_gone s _
        rw [HD.out, if_pos rfl]
        have h5 := room_end (g := s.gone) H4.out hc K4.out.norm (s.upTo x.2.order) f'.sector rfl (rest_split H3.out.fr HA3.out _ rfl) (by rw [hgone])
        rw [HFS.out] at h5
        simp only [hgone]
        exact ⟨by rfl, col3, m1 ++ m2, h5.1, (KStep.drew (w' := w) (KStep.refl c HNM.out)).trans (K3.out.trans (K4.out.trans h5.2))⟩
      | false =>
        rw [hd] at x4
        have HD := Lib.hid hd
        clear hd
        go_wp2_with fail
        refine (drop_any H.out.drew hc HAP.out (HNM.out.grow (Nat.le_refl _)) HXS.out).mono ?_
        rintro e w4 ⟨rfl, h4, k4, _⟩
        obtain ⟨-, -, -, -, -, -, -, c7, cf⟩ := cells_cache h4.block
        have cf7 := cf 7
        have H4 := Lib.hid h4
        have K4 := Lib.hid k4
        clear h4 k4 cf
        simp only at c7
        go_wp2_with fail
        go_ret
        rw [HM.out]
        have h5 := room_end (g := s.gone) H4.out hc K4.out.norm s x.2.sector rfl (rest_split H.out.fr HAP.out _ rfl) rfl
        rw [HD.out, if_neg (by decide)]
        exact ⟨by rfl, col, l1 ++ l2, h5.1, (KStep.drew (w' := w) (KStep.refl c HNM.out)).trans (K4.out.trans h5.2)⟩
end
end Go.Proofs.Ytjjgihaikcnjgaa
