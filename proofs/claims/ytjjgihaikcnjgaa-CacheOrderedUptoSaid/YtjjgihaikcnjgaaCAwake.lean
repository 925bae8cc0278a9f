/-
  awake of the laws of the cache.
-/
import Derived.Test.YtjjgihaikcnjgaaCLaw2
namespace Go.Proofs.Ytjjgihaikcnjgaa
open Go.RowKit Go.Maps
set_option linter.unusedSimpArgs false
set_option linter.unusedVariables false
set_option maxRecDepth 100000

theorem fits_a : fitsD 512 9 = true := by rw [fits_split]; rfl
theorem pend_law {w : World} {col : Nat → Nat} {c b db : Nat} {s : CS} (h : CacheAt w col c b db s) (hnm : Norm w col) (ok : s.Ok) (hp : s.d.pending.length ≤ 1073690000) :
    Calls Try.prog 17 #[ptr db] w fun e w' => (∃ a cap, e = .returned (.slice a s.d.sectors.length cap) ∧ RdAt w' (Nil0 col) 1 (.slice a s.d.sectors.length cap) s.d.sectors.length (s.d.sectors.map (Value.int .i64))) ∧ Below w.heap.size w w' := by
  obtain ⟨rb, mb, ns, h⟩ := h
  exact pending_law w col c db s.d h.disk ok.d hnm (by omega)
theorem KStep.bel {W w w' : World} {c : Nat} {col col' : Nat → Nat} (e : Env W col w) (k : KStep c col col' w w') (hc : 1 < c) : Env W col' w' := e.kstep k hc
set_option maxHeartbeats 4000000 in
theorem awake_any (w : World) : Calls Try.prog 24 #[] w fun e w' => e = .returned (.bool true) ∧ Below w.heap.size w w' := by
  have E0 := Env.refl w
  have ok0 : a0.Ok := newS_Ok fits_a (by omega)
  have hp0 : a0.d.pending.length ≤ 1073690000 := by simp [a0, CS.new, DS.new]
  have ok1 : ({ a0 with frames := [aF] } : CS).Ok := by have := (put_keeps ok0 5 aL 3 (by omega)).ok; rw [a_put] at this; exact this
  have ok2 : ({ a0 with frames := [aF], hits := 1 } : CS).Ok := hits_Ok ok1 _ _ _ _
  have ok3 := upTo_keeps ok2 3
  have hl1 : (({ a0 with frames := [aF], hits := 1 } : CS).d.sectors).length = 0 := by simp [a0, CS.new, DS.new, DS.sectors]
  have hl3 : ((({ a0 with frames := [aF], hits := 1 } : CS).upTo 3).d.sectors).length = 1 := by have := a_three; simpa [DS.sectors] using this
  have hlb : ({ a0 with frames := [aF], hits := 1 } : CS).lastBytes = aL := by simp [CS.lastBytes, aF]
  have HA1 := Lib.hid a_put
  have HA2 := Lib.hid a_get
  have HA3 := Lib.hid a_two
  have HA4 := Lib.hid a_three
  have HL1 := Lib.hid hl1
  have HL3 := Lib.hid hl3
  have HLB := Lib.hid hlb
  have OK0 := Lib.hid ok0
  have HP0 := Lib.hid hp0
  have OK1 := Lib.hid ok1
  have OK2 := Lib.hid ok2
  have OK3 := Lib.hid ok3
  have HE0 := Lib.hid E0
  have hp1 : Hid (({ a0 with frames := [aF] } : CS).d.pending.length ≤ 1073690000) := hp0
  have hp2 : Hid (({ a0 with frames := [aF], hits := 1 } : CS).d.pending.length ≤ 1073690000) := hp0
  generalize hS1 : ({ a0 with frames := [aF] } : CS) = S1 at *
  generalize hS2 : ({ a0 with frames := [aF], hits := 1 } : CS) = S2 at *
  have HS0 : Hid (a0 = CS.new (DS.new 512 9) 2) := rfl
  have haL : aL.length = 512 := by simp [aL]
  have HAL := Lib.hid haL
  clear hl1 hl3 hlb ok0 hp0 ok1 ok2 ok3 E0 hS1 hS2 haL
  go_enter Try.func24, Try.ntmps24
  go_wp2_with fail
  refine (new_ok w 512 9 fits_a (fun _ => 0) 2).mono ?_
  rintro e w1 ⟨⟨db, col1, rfl, hdb, hd, hext, hn1⟩, k1⟩
  have E1 : Env w col1 w1 := ⟨hn1, fun i hi => hext i hi, k1⟩
  have HE1 := Lib.hid E1
  have HD1 := Lib.hid hd
  clear hext hn1 k1 E1 hd hdb
  go_wp2_with fail
  refine (cnew_any (s := a0) HD1.out (by omega) HE1.out.norm 2 (by omega)).mono ?_
  rintro e w2 ⟨rfl, col2, h2, k2, -⟩
  have HE2 := Lib.hid (HE1.out.kstep k2 (by omega))
  have H2 := Lib.hid (show CacheAt w2 col2 2 (w1.heap.size + 2) db a0 from h2)
  clear h2 k2
  generalize w1.heap.size + 2 = cb at *
  unfold ptr
  go_wp2_with fail
  refine (fill_any w2 col2 HE2.out.norm 512 7 (by omega) (by omega)).mono ?_
  rintro e w3 ⟨⟨a3, cap3, rfl, hsl3⟩, k3⟩
  have HE3 := Lib.hid (HE2.out.below k3)
  have H3 := Lib.hid (H2.out.below k3)
  have HV3 : Hid (RdAt w3 (Nil0 col2) 1 (.slice a3 512 cap3) aL.length (bcells aL)) := by rw [HAL.out]; exact hsl3.rd
  clear hsl3 k3
  go_wp2_with fail
  refine (put_law H3.out (by omega) HE3.out.norm OK0.out HP0.out 5 ⟨by omega, by omega⟩ _ aL 3 HV3.out).mono ?_
  rintro e w4 ⟨rfl, col4, h4, k4, -⟩
  rw [HA1.out] at h4 ⊢
  have HE4 := Lib.hid (HE3.out.kstep k4 (by omega))
  have H4 := Lib.hid h4
  clear h4 k4
  simp only
  go_wp2_with fail
  refine (get_law H4.out (by omega) HE4.out.norm OK1.out hp1.out 5 ⟨by omega, by omega⟩).mono ?_
  rintro e w5 ⟨col5, h5, k5, ⟨-, a5, cap5, rfl, hs5⟩ | ⟨hbad, -⟩⟩
  · rw [HA2.out] at h5 hs5 ⊢
    have HE5 := Lib.hid (HE4.out.kstep k5 (by omega))
    have H5 := Lib.hid h5
    simp only at hs5 h5 ⊢
    rw [HLB.out] at hs5 ⊢
    rw [HAL.out] at hs5 ⊢
    obtain ⟨g5, off5, rfl, _, hg5, hc5⟩ := hs5.rd.get (by omega)
    have c5 := hc5 0 (.int .u8 7) (by unfold aL rep bcells; rw [List.map_replicate]; rfl)
    rw [Nat.add_zero] at c5
    clear h5 k5 hs5 hc5
    go_wp2_with fail
    refine (upto_law H5.out (by omega) HE5.out.norm OK2.out hp2.out 2).mono ?_
    rintro e w6 ⟨rfl, col6, h6, k6, -⟩
    rw [HA3.out] at h6
    have HE6 := Lib.hid (HE5.out.kstep k6 (by omega))
    have H6 := Lib.hid h6
    clear h6 k6 c5 hg5
    go_wp2_with fail
    refine (pend_law H6.out HE6.out.norm OK2.out hp2.out).mono ?_
    rintro e w7 ⟨⟨a7, cap7, rfl, -⟩, k7⟩
    rw [HL1.out]
    have HE7 := Lib.hid (HE6.out.below k7)
    have H7 := Lib.hid (H6.out.below k7)
    clear k7
    go_wp2_with fail
    refine (upto_law H7.out (by omega) HE7.out.norm OK2.out hp2.out 3).mono ?_
    rintro e w8 ⟨rfl, col8, h8, k8, -⟩
    have HE8 := Lib.hid (HE7.out.kstep k8 (by omega))
    have H8 := Lib.hid h8
    clear h8 k8
    go_wp2_with fail
    refine (pend_law H8.out HE8.out.norm OK3.out.ok (by have := HA4.out; omega)).mono ?_
    rintro e w9 ⟨⟨a9, cap9, rfl, -⟩, k9⟩
    rw [HL3.out]
    have HE9 := Lib.hid (HE8.out.below k9)
    clear k9
    go_wp2_with fail
    go_ret
    exact ⟨rfl, HE9.out.bel⟩
  · exact absurd (by rw [HA2.out]) hbad
end Go.Proofs.Ytjjgihaikcnjgaa
