/-
  two and lives.
-/
import Derived.Test.YtjdkalimaldofaaNEnc
import Derived.Test.YtjdkalimaldofaaNFind2
namespace Go.Proofs.Ytjdkalimaldofaa
open Go.RowKit
set_option linter.unusedSimpArgs false
set_option linter.unusedVariables false
def ndTwo : ND := ⟨true, [⟨#[97]⟩, ⟨#[98, 98]⟩], [⟨#[49]⟩, ⟨#[50, 50]⟩], []⟩
theorem two_small : ndTwo.Small := ⟨by decide, by decide, by decide⟩
theorem two_lens : ndTwo.lens = true := by decide
theorem two_ups : ups ndTwo.keys = true := ups_yes (fun j h1 h2 => by
  have h3 : j + 1 < 2 := h1
  obtain rfl : j = 0 := by omega
  show Op.bytesLess (⟨#[97]⟩ : ByteArray).toList (⟨#[98, 98]⟩ : ByteArray).toList = true
  decide +kernel)
theorem two_check : ndTwo.check = 0 := by
  unfold ND.check
  rw [if_pos two_lens, if_pos]
  refine ⟨?_, Or.inl rfl⟩
  unfold ND.shape
  rw [two_ups]
  decide
theorem two_psize : ndTwo.psize = 26 := by decide
theorem out_head (n : ND) (size : Nat) : (bcells (n.out size))[0]? = some (.int .u8 68) := by
  have e : ∃ r, n.enc = 68 :: r := ⟨_, rfl⟩
  obtain ⟨r, e⟩ := e
  unfold ND.out
  rw [e]
  simp [bcells, bts, strOfNums]
set_option maxHeartbeats 1000000 in
theorem two_any (w : World) : Calls Try.prog 31 #[] w fun e w' => (∃ v, e = .returned v ∧ NodeAt w' (fun k => w.heap.size ≤ k) v ndTwo) ∧ Bl w w' := by
  go_enter Try.func31, Try.ntmps31
  go_wp2_with fail
  refine bodyPost_ret (v := .agg #[.bool true, .slice (some ⟨w.heap.size + 1, 0, none⟩) 2 2, .slice (some ⟨w.heap.size + 1 + 1, 0, none⟩) 2 2, .slice none 0 0]) (by simp [results, Try.results31, go_sem, *]) rfl ?_
  have r1 : RdAt ((w.alloc (.cells #[.bool true, .slice (some ⟨w.heap.size + 1, 0, none⟩) 2 2, .slice (some ⟨w.heap.size + 1 + 1, 0, none⟩) 2 2, .slice none 0 0] 25)).alloc (.cells #[.string ⟨#[97]⟩, .string ⟨#[98, 98]⟩] 9)) (fun k => k = w.heap.size + 1) 1 (.slice (some ⟨w.heap.size + 1, 0, none⟩) 2 2) 2 (tcells ndTwo.keys) := rd_newG (cs := [.string ⟨#[97]⟩, .string ⟨#[98, 98]⟩]) (by simp) rfl (by unfold maxLen; omega)
  have r2 : RdAt (((w.alloc (.cells #[.bool true, .slice (some ⟨w.heap.size + 1, 0, none⟩) 2 2, .slice (some ⟨w.heap.size + 1 + 1, 0, none⟩) 2 2, .slice none 0 0] 25)).alloc (.cells #[.string ⟨#[97]⟩, .string ⟨#[98, 98]⟩] 9)).alloc (.cells #[.string ⟨#[49]⟩, .string ⟨#[50, 50]⟩] 9)) (fun k => k = w.heap.size + 1 + 1) 1 (.slice (some ⟨w.heap.size + 1 + 1, 0, none⟩) 2 2) 2 (tcells ndTwo.values) := rd_newG (cs := [.string ⟨#[49]⟩, .string ⟨#[50, 50]⟩]) (by simp) rfl (by unfold maxLen; omega)
  exact ⟨⟨_, rfl, _, _, _, _, _, _, rfl, ⟨(RdAt.below r1 ((Bl.refl _).alloc _)).mono (fun k _ e => by omega), r2.mono (fun k _ e => by omega), (SlAt.nil _ _ 3 1 _).rd⟩⟩, (((Bl.refl w).alloc _).alloc _).alloc _⟩
theorem two_first {r : Nat} (h : First (fun k => !(lessB (atL ndTwo.keys k) ⟨#[98]⟩)) ndTwo.keys.length r) : r = 1 := by
  refine First.uniq h ⟨by decide, fun i hi => ?_, fun _ => ?_⟩
  · obtain rfl : i = 0 := by omega
    decide +kernel
  · decide +kernel
theorem two_finds : ndTwo.finds ⟨#[98]⟩ 1 = false := by decide +kernel
set_option maxRecDepth 100000 in
set_option maxHeartbeats 1000000 in
theorem lives_any (w : World) : Calls Try.prog 8 #[] w fun e w' => e = .returned (.bool true) ∧ Bl w w' := by
  go_enter Try.func8, Try.ntmps8
  go_wp2_with fail
  refine (two_any w).mono ?_
  rintro e w2 ⟨⟨v, rfl, hv⟩, k2⟩
  go_wp2_with fail
  refine (encode_ok_true w2 _ v ndTwo 512 hv two_small (ND.Lens.of two_lens) two_check rfl rfl (by rw [two_psize]; decide)).mono ?_
  rintro e w3 ⟨⟨x, rfl, hx⟩, k3⟩
  go_wp2_with fail
  refine (two_any w3).mono ?_
  rintro e w4 ⟨⟨v4, rfl, hv4⟩, k4⟩
  go_wp2_with fail
  refine (findleaf_any w4 _ v4 ndTwo ⟨#[98]⟩ hv4 two_small two_ups rfl).mono ?_
  rintro e w5 ⟨⟨r, rfl, hr⟩, k5⟩
  have hr1 := two_first hr
  subst hr1
  rw [two_finds]
  clear hr
  go_wp2_with fail
  refine (two_any w5).mono ?_
  rintro e w6 ⟨⟨v6, rfl, hv6⟩, k6⟩
  go_wp2_with fail
  refine (psize_any w6 _ v6 ndTwo hv6 two_small two_lens).mono ?_
  rw [two_psize]
  rintro e w7 ⟨rfl, k7⟩
  obtain ⟨xa, xc, rfl, hxm⟩ := RdAt.shape hx
  obtain ⟨g, off, rfl, _, hg, hc⟩ := RdAt.get (RdAt.below hx (((k4.trans k5).trans k6).trans k7)) (by omega)
  have c1 := hc 0 _ (out_head ndTwo 512)
  rw [Nat.add_zero] at c1
  clear hc
  go_wp2_with fail
  go_ret
  exact ⟨rfl, ((((k2.trans k3).trans k4).trans k5).trans k6).trans k7⟩
end Go.Proofs.Ytjdkalimaldofaa
