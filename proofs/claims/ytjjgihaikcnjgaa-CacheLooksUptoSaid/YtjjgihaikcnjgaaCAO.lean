/-
  awake of the laws of the cache.
-/
import Derived.Test.YtjjgihaikcnjgaaCLaw2
import Derived.Deep.RegionHeld3
import Derived.Deep.RegionWith
import Derived.Test.YtjjgihaikcnjgaaCHoldsP
import Derived.ProofKit
import Derived.ChangeSlices
import Derived.Deep.Slices
namespace Go.Proofs.Ytjjgihaikcnjgaa
open Go.RowKit Go.Maps
set_option linter.unusedSimpArgs false
set_option linter.unusedVariables false
set_option maxRecDepth 100000

theorem fits_a : fitsD 512 9 = true := by rw [fits_split]; rfl
theorem pend_law {w : World} {col : Nat → Nat} {c b db : Nat} {s : CS} (h : CacheAt w col c b db s) (hnm : Norm w col) (ok : s.Ok) (hp : s.d.pending.length ≤ 1073690000) :
    Calls Try.prog 17 #[ptr db] w fun e w' => (∃ a cap, e = .returned (.slice a s.d.sectors.length cap) ∧ RdAt w' (Nil0 col) 1 (.slice a s.d.sectors.length cap) s.d.sectors.length (s.d.sectors.map (Value.int .i64))) ∧ Below w.heap.size w w' := by
  obtain ⟨rb, mb, ns, h⟩ := h
  exact pending_law w col c db s.d h.disk ok.d hnm (by omega)
theorem KStep.bel {W w w' : World} {c : Nat} {col col' : Nat → Nat} (e : Env W col w) (k : KStep c col col' w w') (hc : 1 < c) : Env W col' w' := e.kstep k hc
set_option maxHeartbeats 4000000 in
theorem awake_any (w : World) : Calls Try.prog 24 #[] w fun e w' => e = .returned (.bool true) ∧ Below w.heap.size w w' := by
  have E0 := Env.refl w
  have ok0 : a0.Ok := newS_Ok fits_a (by omega)
  have hp0 : a0.d.pending.length ≤ 1073690000 := by simp [a0, CS.new, DS.new]
  have ok1 : ({ a0 with frames := [aF] } : CS).Ok := by have := (put_keeps ok0 5 aL 3 (by omega)).ok; rw [a_put] at this; exact this
  have ok2 : ({ a0 with frames := [aF], hits := 1 } : CS).Ok := hits_Ok ok1 _ _ _ _
  have ok3 := upTo_keeps ok2 3
  have hl1 : (({ a0 with frames := [aF], hits := 1 } : CS).d.sectors).length = 0 := by simp [a0, CS.new, DS.new, DS.sectors]
  have hl3 : ((({ a0 with frames := [aF], hits := 1 } : CS).upTo 3).d.sectors).length = 1 := by have := a_three; simpa [DS.sectors] using this
  have hlb : ({ a0 with frames := [aF], hits := 1 } : CS).lastBytes = aL := by simp [CS.lastBytes, aF]
  have HA1 := Lib.hid a_put
  have HA2 := Lib.hid a_get
  have HA3 := Lib.hid a_two
  have HA4 := Lib.hid a_three
  have HL1 := Lib.hid hl1
  have HL3 := Lib.hid hl3
  have HLB := Lib.hid hlb
  have OK0 := Lib.hid ok0
  have HP0 := Lib.hid hp0
  have OK1 := Lib.hid ok1
  have OK2 := Lib.hid ok2
  have OK3 := Lib.hid ok3
  have HE0 := Lib.hid E0
  have hp1 : Hid (({ a0 with frames := [aF] } : CS).d.pending.length ≤ 1073690000) := hp0
  have hp2 : Hid (({ a0 with frames := [aF], hits := 1 } : CS).d.pending.length ≤ 1073690000) := hp0
  generalize hS1 : ({ a0 with frames := [aF] } : CS) = S1 at *
  generalize hS2 : ({ a0 with frames := [aF], hits := 1 } : CS) = S2 at *
  have HS0 : Hid (a0 = CS.new (DS.new 512 9) 2) := rfl
  have haL : aL.length = 512 := by simp [aL]
  have HAL := Lib.hid haL
  clear hl1 hl3 hlb ok0 hp0 ok1 ok2 ok3 E0 hS1 hS2 haL
  go_enter Try.func24, Try.ntmps24
  go_wp2_with fail
  refine (new_ok w 512 9 fits_a (fun _ => 0) 2).mono ?_
  rintro e w1 ⟨⟨db, col1, rfl, hdb, hd, hext, hn1⟩, k1⟩
  have E1 : Env w col1 w1 := ⟨hn1, fun i hi => hext i hi, k1⟩
  have HE1 := Lib.hid E1
  have HD1 := Lib.hid hd
  clear hext hn1 k1 E1 hd hdb
  go_wp2_with fail
  refine (cnew_any (s := a0) HD1.out (by omega) HE1.out.norm 2 (by omega)).mono ?_
  rintro e w2 ⟨rfl, col2, h2, k2, -⟩
  have HE2 := Lib.hid (HE1.out.kstep k2 (by omega))
  have H2 := Lib.hid (show CacheAt w2 col2 2 (w1.heap.size + 2) db a0 from h2)
  clear h2 k2
  generalize w1.heap.size + 2 = cb at *
  unfold ptr
  go_wp2_with fail
  refine (fill_any w2 col2 HE2.out.norm 512 7 (by omega) (by omega)).mono ?_
  rintro e w3 ⟨⟨a3, cap3, rfl, hsl3⟩, k3⟩
  have HE3 := Lib.hid (HE2.out.below k3)
  have H3 := Lib.hid (H2.out.below k3)
  have HV3 : Hid (RdAt w3 (Nil0 col2) 1 (.slice a3 512 cap3) aL.length (bcells aL)) := by rw [HAL.out]; exact hsl3.rd
  clear hsl3 k3
  go_wp2_with fail
  refine (put_law H3.out (by omega) HE3.out.norm OK0.out HP0.out 5 ⟨by omega, by omega⟩ _ aL 3 HV3.out).mono ?_
  rintro e w4 ⟨rfl, col4, h4, k4, -⟩
  rw [HA1.out] at h4 ⊢
  have HE4 := Lib.hid (HE3.out.kstep k4 (by omega))
  have H4 := Lib.hid h4
  clear h4 k4
  simp only
  go_wp2_with fail
  refine (get_law H4.out (by omega) HE4.out.norm OK1.out hp1.out 5 ⟨by omega, by omega⟩).mono ?_
  rintro e w5 ⟨col5, h5, k5, ⟨-, a5, cap5, rfl, hs5⟩ | ⟨hbad, -⟩⟩
  · rw [HA2.out] at h5 hs5 ⊢
    have HE5 := Lib.hid (HE4.out.kstep k5 (by omega))
    have H5 := Lib.hid h5
    simp only at hs5 h5 ⊢
    rw [HLB.out] at hs5 ⊢
    rw [HAL.out] at hs5 ⊢
    obtain ⟨g5, off5, rfl, _, hg5, hc5⟩ := hs5.rd.get (by omega)
    have c5 := hc5 0 (.int .u8 7) (by unfold aL rep bcells; rw [List.map_replicate]; rfl)
    rw [Nat.add_zero] at c5
    clear h5 k5 hs5 hc5
    go_wp2_with fail
    refine (upto_law H5.out (by omega) HE5.out.norm OK2.out hp2.out 2).mono ?_
    rintro e w6 ⟨rfl, col6, h6, k6, -⟩
    rw [HA3.out] at h6
    have HE6 := Lib.hid (HE5.out.kstep k6 (by omega))
    have H6 := Lib.hid h6
    clear h6 k6 c5 hg5
    go_wp2_with fail
    refine (pend_law H6.out HE6.out.norm OK2.out hp2.out).mono ?_
    rintro e w7 ⟨⟨a7, cap7, rfl, -⟩, k7⟩
    rw [HL1.out]
    have HE7 := Lib.hid (HE6.out.below k7)
    have H7 := Lib.hid (H6.out.below k7)
    clear k7
    go_wp2_with fail
    refine (upto_law H7.out (by omega) HE7.out.norm OK2.out hp2.out 3).mono ?_
    rintro e w8 ⟨rfl, col8, h8, k8, -⟩
    have HE8 := Lib.hid (HE7.out.kstep k8 (by omega))
    have H8 := Lib.hid h8
    clear h8 k8
    go_wp2_with fail
    refine (pend_law H8.out HE8.out.norm OK3.out.ok (by have := HA4.out; omega)).mono ?_
    rintro e w9 ⟨⟨a9, cap9, rfl, -⟩, k9⟩
    rw [HL3.out]
    have HE9 := Lib.hid (HE8.out.below k9)
    clear k9
    go_wp2_with fail
    go_ret
    exact ⟨rfl, HE9.out.bel⟩
  · exact absurd (by rw [HA2.out]) hbad
end Go.Proofs.Ytjjgihaikcnjgaa
/-
  alone of the laws of the cache.
-/
namespace Go.Proofs.Ytjjgihaikcnjgaa
open Go.RowKit Go.Maps
set_option linter.unusedSimpArgs false
set_option linter.unusedVariables false
set_option maxRecDepth 100000

theorem newcache_no (w : World) (db : Nat) (room : Int) (h : room < 1 ∨ 4096 < room) : Calls Try.prog 26 #[ptr db, .int .i64 room] w fun e w' => e = .returned (.tuple #[.pointer none, .int .i64 1]) ∧ w = w' := by
  unfold ptr
  rcases h with h | h
  · go_enter Try.func26, Try.ntmps26
    go_wp2
    go_ret2
    exact ⟨rfl, rfl⟩
  · have h1 : ¬ room < 1 := by omega
    go_enter Try.func26, Try.ntmps26
    go_wp2
    go_ret2
    exact ⟨rfl, rfl⟩
theorem newcache_nil (w : World) (room : Int) : Calls Try.prog 26 #[.pointer none, .int .i64 room] w fun e w' => e = .returned (.tuple #[.pointer none, .int .i64 1]) ∧ w = w' := by
  go_enter Try.func26, Try.ntmps26
  go_wp2
  go_ret2
  exact ⟨rfl, rfl⟩
/-- a script's size, sectors, frames; its calls lie in v -/
def scr (size sectors frames : Int) (v : Value) : Value := .agg #[.int .i64 size, .int .i64 sectors, .int .i64 frames, v]
def AloneTells (w : World) (size sectors frames : Int) (e : Ending) (w' : World) : Prop :=
  (fitsD size sectors = true ∧ (1 ≤ frames ∧ frames ≤ 4096) ∧ ∃ db cb col, e = .returned (.tuple #[ptr db, ptr cb, .bool true]) ∧ CacheAt w' col 2 cb db (CS.new (DS.new size sectors) frames) ∧ Env w col w') ∨
  (¬ (fitsD size sectors = true ∧ (1 ≤ frames ∧ frames ≤ 4096)) ∧ e = .returned (.tuple #[.pointer none, .pointer none, .bool true]) ∧ Below w.heap.size w w')
set_option maxHeartbeats 4000000 in
theorem alone_any (w : World) (size sectors frames : Int) (a : Option Addr) (n cap : Nat) : Calls Try.prog 9 #[scr size sectors frames (.slice a n cap)] w fun e w' => AloneTells w size sectors frames e w' := by
  unfold scr
  cases hf : fitsD size sectors with
  | false =>
    go_enter Try.func9, Try.ntmps9
    go_wp2_with fail
    refine (new_no _ size sectors hf).mono ?_
    rintro e w1 ⟨rfl, rfl⟩
    have HF := Lib.hid hf
    clear hf
    go_wp2_with fail
    refine (awake_any _).mono ?_
    rintro e w2 ⟨rfl, k2⟩
    have K2 := Lib.hid k2
    clear k2
    go_wp2_with fail
    refine bodyPost_ret (v := .tuple #[.pointer none, .pointer none, .bool true]) (by simp [results, Try.results9, go_sem, *]) rfl ?_
    exact Or.inr ⟨fun e => by rw [HF.out] at e; exact absurd e.1 (by decide), rfl, ((Below.refl _ _).alloc (Nat.le_refl _) _).trans (K2.out.mono (by simp))⟩
  | true =>
    by_cases hr : 1 ≤ frames ∧ frames ≤ 4096
    · go_enter Try.func9, Try.ntmps9
      go_wp2_with fail
      refine (new_ok _ size sectors hf (fun _ => 0) 2).mono ?_
      rintro e w1 ⟨⟨db, col1, rfl, hdb, hd, hext, hn1⟩, k1⟩
      have E1 : Env w col1 w1 := ⟨hn1, fun i hi => hext i (by simp; omega), ((Below.refl _ _).alloc (Nat.le_refl _) _).trans (k1.mono (by simp))⟩
      have f2 := (k1.cell (p := ⟨w.heap.size, 2, none⟩) (by simp)).trans (show _ = some (.int .i64 frames) by rw [cell_of_block (block_new _ _)]; rfl)
      have HE1 := Lib.hid E1
      have HD1 := Lib.hid hd
      have HR := Lib.hid hr
      have HF := Lib.hid hf
      clear hext hn1 k1 E1 hd hdb hr hf
      go_wp2_with fail
      refine (cnew_any (s := CS.new (DS.new size sectors) frames) HD1.out (by omega) HE1.out.norm frames HR.out).mono ?_
      rintro e w2 ⟨rfl, col2, h2, k2, -⟩
      have HE2 := Lib.hid (HE1.out.kstep k2 (by omega))
      have H2 := Lib.hid (show CacheAt w2 col2 2 (w1.heap.size + 2) db (CS.new (DS.new size sectors) frames) from h2)
      clear h2 k2 f2
      generalize w1.heap.size + 2 = cb at *
      unfold ptr
      go_wp2_with fail
      refine (awake_any _).mono ?_
      rintro e w3 ⟨rfl, k3⟩
      have K3 := Lib.hid k3
      clear k3
      go_wp2_with fail
      refine bodyPost_ret (v := .tuple #[ptr db, ptr cb, .bool true]) (by simp [results, Try.results9, go_sem, ptr, *]) rfl ?_
      exact Or.inl ⟨HF.out, HR.out, db, cb, col2, rfl, H2.out.below K3.out, HE2.out.below K3.out⟩
    · have hside : frames < 1 ∨ (¬ frames < 1 ∧ 4096 < frames) := by omega
      have hor : frames < 1 ∨ 4096 < frames := by omega
      go_enter Try.func9, Try.ntmps9
      go_wp2_with fail
      refine (new_ok _ size sectors hf (fun _ => 0) 2).mono ?_
      rintro e w1 ⟨⟨db, col1, rfl, hdb, hd, hext, hn1⟩, k1⟩
      have E1 : Below w.heap.size w w1 := ((Below.refl _ _).alloc (Nat.le_refl _) _).trans (k1.mono (by simp))
      have f2 := (k1.cell (p := ⟨w.heap.size, 2, none⟩) (by simp)).trans (show _ = some (.int .i64 frames) by rw [cell_of_block (block_new _ _)]; rfl)
      have hlt : w.heap.size < w1.heap.size := cell_lt f2
      have HE1 := Lib.hid E1
      have HR := Lib.hid hr
      clear hext hn1 k1 E1 hd hdb hr hf
      go_wp2_with fail
      refine (newcache_no _ db frames hor).mono ?_
      rintro e w2 ⟨rfl, rfl⟩
      clear hor
      go_wp2_with fail
      have HC : Hid (∀ W : World, Below w1.heap.size w1 W → W.cell? ⟨w.heap.size, 2, none⟩ = some (.int .i64 frames)) := fun W k => (k.cell (p := ⟨w.heap.size, 2, none⟩) hlt).trans f2
      have HW := Lib.hid hlt
      clear hlt
      rcases hside with h1 | ⟨h1, h2⟩
      · have hd1 : decide (frames < 1) = true := by simp [h1]
        refine wp_region_held_drew (S := fun w' => w'.cell? ⟨w.heap.size, 2, none⟩ = some (.int .i64 frames)) (by kernel_rfl) f2 (fun hHeld => ?_)
        refine wpAnyH_ready (rs := [0]) (by kernel_rfl) (by simp) ?_
        refine AllReadyH.cons (o := _) rfl (fun K hK => ?_) AllReadyH.nil
        go_simp
        refine (awake_any _).mono ?_
        rintro e w3 ⟨rfl, k3⟩
        try dsimp only
        refine hK.out _ _ (HC.out _ (below_undrew k3)) (fun hHeld2 => ?_)
        clear hK K hHeld
        have hHeld := hHeld2
        clear hHeld2
        try simp only [Act.put, List.getElem_toArray, List.getElem_cons_succ, List.getElem_cons_zero, List.setIfInBounds_toArray, List.set_cons_zero, List.set_cons_succ]
        refine wpAnyH_take (i := 1) (oi := _) (v := ?_) rfl (by kernel_rfl) (by kernel_rfl) (by kernel_rfl) (fun _ _ _ h => h) (Or.inl ⟨by rfl, ?_⟩) hHeld ?_
        rotate_left
        · intro w' hSw
          try dsimp only at hSw
          go_simp
          try with_reducible rfl
        try simp only [Act.put, List.getElem_toArray, List.getElem_cons_succ, List.getElem_cons_zero, List.setIfInBounds_toArray, List.set_cons_zero, List.set_cons_succ]
        refine wpAnyH_take (i := 2) (oi := _) (v := ?_) rfl (by kernel_rfl) (by kernel_rfl) (by kernel_rfl) (fun _ _ _ h => h) (Or.inl ⟨by rfl, ?_⟩) hHeld ?_
        rotate_left
        · intro w' hSw
          try dsimp only at hSw
          go_simp
          try with_reducible rfl
        try simp only [Act.put, List.getElem_toArray, List.getElem_cons_succ, List.getElem_cons_zero, List.setIfInBounds_toArray, List.set_cons_zero, List.set_cons_succ]
        refine wpAnyH_take (i := 3) (oi := _) (v := ?_) rfl (by kernel_rfl) (by kernel_rfl) (by kernel_rfl) (fun _ _ _ h => h) (Or.inl ⟨by rfl, ?_⟩) hHeld ?_
        rotate_left
        · intro w' hSw
          try dsimp only at hSw
          go_simp
          try with_reducible rfl
        try simp only [Act.put, List.getElem_toArray, List.getElem_cons_succ, List.getElem_cons_zero, List.setIfInBounds_toArray, List.set_cons_zero, List.set_cons_succ]
        refine wpAnyH_take (i := 4) (oi := _) (v := ?_) rfl (by kernel_rfl) (by kernel_rfl) (by kernel_rfl) (fun _ _ _ h => h) (Or.inl ⟨by rfl, ?_⟩) hHeld ?_
        rotate_left
        · intro w' hSw
          try dsimp only at hSw
          go_simp
          try with_reducible rfl
        try simp only [Act.put, List.getElem_toArray, List.getElem_cons_succ, List.getElem_cons_zero, List.setIfInBounds_toArray, List.set_cons_zero, List.set_cons_succ]
        refine wpAnyH_take (i := 5) (oi := _) (v := ?_) rfl (by kernel_rfl) (by kernel_rfl) (by kernel_rfl) (fun _ _ _ h => h) (Or.inl ⟨by rfl, ?_⟩) hHeld ?_
        rotate_left
        · intro w' hSw
          try dsimp only at hSw
          go_simp
          try with_reducible rfl
        try simp only [Act.put, List.getElem_toArray, List.getElem_cons_succ, List.getElem_cons_zero, List.setIfInBounds_toArray, List.set_cons_zero, List.set_cons_succ]
        refine wpAnyH_take (i := 6) (oi := _) (v := ?_) rfl (by kernel_rfl) (by kernel_rfl) (by kernel_rfl) (fun _ _ _ h => h) (Or.inl ⟨by rfl, ?_⟩) hHeld ?_
        rotate_left
        · intro w' hSw
          try dsimp only at hSw
          go_simp
          try with_reducible rfl
        try simp only [Act.put, List.getElem_toArray, List.getElem_cons_succ, List.getElem_cons_zero, List.setIfInBounds_toArray, List.set_cons_zero, List.set_cons_succ]
        refine wpAnyH_take (i := 7) (oi := _) (v := ?_) rfl (by kernel_rfl) (by kernel_rfl) (by kernel_rfl) (fun _ _ _ h => h) (Or.inl ⟨by rfl, ?_⟩) hHeld ?_
        rotate_left
        · intro w' hSw
          try dsimp only at hSw
          go_simp
          try with_reducible rfl
        try simp only [Act.put, List.getElem_toArray, List.getElem_cons_succ, List.getElem_cons_zero, List.setIfInBounds_toArray, List.set_cons_zero, List.set_cons_succ]
        refine wpAnyH_take (i := 8) (oi := _) (v := ?_) rfl (by kernel_rfl) (by kernel_rfl) (by kernel_rfl) (fun _ _ _ h => h) (Or.inl ⟨by rfl, ?_⟩) hHeld ?_
        rotate_left
        · intro w' hSw
          try dsimp only at hSw
          go_simp
          try with_reducible rfl
        try simp only [Act.put, List.getElem_toArray, List.getElem_cons_succ, List.getElem_cons_zero, List.setIfInBounds_toArray, List.set_cons_zero, List.set_cons_succ]
        refine wpAnyH_take (i := 9) (oi := _) (v := ?_) rfl (by kernel_rfl) (by kernel_rfl) (by kernel_rfl) (fun _ _ _ h => h) (Or.inl ⟨by rfl, ?_⟩) hHeld ?_
        rotate_left
        · intro w' hSw
          try dsimp only at hSw
          go_simp
          try with_reducible rfl
        try simp only [Act.put, List.getElem_toArray, List.getElem_cons_succ, List.getElem_cons_zero, List.setIfInBounds_toArray, List.set_cons_zero, List.set_cons_succ]
        refine wpAnyH_take (i := 10) (oi := _) (v := undef) rfl (by kernel_rfl) (by kernel_rfl) (by kernel_rfl) (fun _ _ _ h => h) (Or.inr ⟨by rfl, rfl⟩) hHeld ?_
        try simp only [Act.put, List.getElem_toArray, List.getElem_cons_succ, List.getElem_cons_zero, List.setIfInBounds_toArray, List.set_cons_zero, List.set_cons_succ]
        refine wpAnyH_take (i := 11) (oi := _) (v := undef) rfl (by kernel_rfl) (by kernel_rfl) (by kernel_rfl) (fun _ _ _ h => h) (Or.inr ⟨by rfl, rfl⟩) hHeld ?_
        try simp only [Act.put, List.getElem_toArray, List.getElem_cons_succ, List.getElem_cons_zero, List.setIfInBounds_toArray, List.set_cons_zero, List.set_cons_succ]
        refine wpAnyH_take (i := 12) (oi := _) (v := undef) rfl (by kernel_rfl) (by kernel_rfl) (by kernel_rfl) (fun _ _ _ h => h) (Or.inr ⟨by rfl, rfl⟩) hHeld ?_
        try simp only [Act.put, List.getElem_toArray, List.getElem_cons_succ, List.getElem_cons_zero, List.setIfInBounds_toArray, List.set_cons_zero, List.set_cons_succ]
        refine wpAnyH_take (i := 13) (oi := _) (v := ?_) rfl (by kernel_rfl) (by kernel_rfl) (by kernel_rfl) (fun _ _ _ h => h) (Or.inl ⟨by rfl, ?_⟩) hHeld ?_
        rotate_left
        · intro w' hSw
          try dsimp only at hSw
          go_simp
          try with_reducible rfl
        try simp only [Act.put, List.getElem_toArray, List.getElem_cons_succ, List.getElem_cons_zero, List.setIfInBounds_toArray, List.set_cons_zero, List.set_cons_succ]
        refine wpAnyH_take (i := 14) (oi := _) (v := ?_) rfl (by kernel_rfl) (by kernel_rfl) (by kernel_rfl) (fun _ _ _ h => h) (Or.inl ⟨by rfl, ?_⟩) hHeld ?_
        rotate_left
        · intro w' hSw
          try dsimp only at hSw
          go_simp
          try with_reducible rfl
        try simp only [Act.put, List.getElem_toArray, List.getElem_cons_succ, List.getElem_cons_zero, List.setIfInBounds_toArray, List.set_cons_zero, List.set_cons_succ]
        refine wpAnyH_take (i := 15) (oi := _) (v := ?_) rfl (by kernel_rfl) (by kernel_rfl) (by kernel_rfl) (fun _ _ _ h => h) (Or.inl ⟨by rfl, ?_⟩) hHeld ?_
        rotate_left
        · intro w' hSw
          try dsimp only at hSw
          go_simp
          try with_reducible rfl
        try simp only [Act.put, List.getElem_toArray, List.getElem_cons_succ, List.getElem_cons_zero, List.setIfInBounds_toArray, List.set_cons_zero, List.set_cons_succ]
        refine wpAnyH_take (i := 16) (oi := _) (v := ?_) rfl (by kernel_rfl) (by kernel_rfl) (by kernel_rfl) (fun _ _ _ h => h) (Or.inl ⟨by rfl, ?_⟩) hHeld ?_
        rotate_left
        · intro w' hSw
          try dsimp only at hSw
          go_simp
          try with_reducible rfl
        try simp only [Act.put, List.getElem_toArray, List.getElem_cons_succ, List.getElem_cons_zero, List.setIfInBounds_toArray, List.set_cons_zero, List.set_cons_succ]
        refine wpAnyH_take (i := 17) (oi := _) (v := ?_) rfl (by kernel_rfl) (by kernel_rfl) (by kernel_rfl) (fun _ _ _ h => h) (Or.inl ⟨by rfl, ?_⟩) hHeld ?_
        rotate_left
        · intro w' hSw
          try dsimp only at hSw
          go_simp
          try with_reducible rfl
        try simp only [Act.put, List.getElem_toArray, List.getElem_cons_succ, List.getElem_cons_zero, List.setIfInBounds_toArray, List.set_cons_zero, List.set_cons_succ]
        refine wpAnyH_done (by kernel_rfl) ?_ _
        go_wp2_with fail
        refine bodyPost_ret (v := .tuple #[.pointer none, .pointer none, .bool true]) (by simp [results, Try.results9, go_sem, *]) rfl ?_
        exact Or.inr ⟨fun e => HR.out e.2, rfl, HE1.out.trans ((below_undrew k3).mono (Nat.le_of_lt HW.out))⟩
      · have hd1 : decide (frames < 1) = false := by simp [h1]
        have hd2 : decide (4096 < frames) = true := by simp [h2]
        refine wp_region_held_drew (S := fun w' => w'.cell? ⟨w.heap.size, 2, none⟩ = some (.int .i64 frames)) (by kernel_rfl) f2 (fun hHeld => ?_)
        refine wpAnyH_ready (rs := [0]) (by kernel_rfl) (by simp) ?_
        refine AllReadyH.cons (o := _) rfl (fun K hK => ?_) AllReadyH.nil
        go_simp
        refine (awake_any _).mono ?_
        rintro e w3 ⟨rfl, k3⟩
        try dsimp only
        refine hK.out _ _ (HC.out _ (below_undrew k3)) (fun hHeld2 => ?_)
        clear hK K hHeld
        have hHeld := hHeld2
        clear hHeld2
        try simp only [Act.put, List.getElem_toArray, List.getElem_cons_succ, List.getElem_cons_zero, List.setIfInBounds_toArray, List.set_cons_zero, List.set_cons_succ]
        refine wpAnyH_take (i := 1) (oi := _) (v := ?_) rfl (by kernel_rfl) (by kernel_rfl) (by kernel_rfl) (fun _ _ _ h => h) (Or.inl ⟨by rfl, ?_⟩) hHeld ?_
        rotate_left
        · intro w' hSw
          try dsimp only at hSw
          go_simp
          try with_reducible rfl
        try simp only [Act.put, List.getElem_toArray, List.getElem_cons_succ, List.getElem_cons_zero, List.setIfInBounds_toArray, List.set_cons_zero, List.set_cons_succ]
        refine wpAnyH_take (i := 2) (oi := _) (v := ?_) rfl (by kernel_rfl) (by kernel_rfl) (by kernel_rfl) (fun _ _ _ h => h) (Or.inl ⟨by rfl, ?_⟩) hHeld ?_
        rotate_left
        · intro w' hSw
          try dsimp only at hSw
          go_simp
          try with_reducible rfl
        try simp only [Act.put, List.getElem_toArray, List.getElem_cons_succ, List.getElem_cons_zero, List.setIfInBounds_toArray, List.set_cons_zero, List.set_cons_succ]
        refine wpAnyH_take (i := 3) (oi := _) (v := ?_) rfl (by kernel_rfl) (by kernel_rfl) (by kernel_rfl) (fun _ _ _ h => h) (Or.inl ⟨by rfl, ?_⟩) hHeld ?_
        rotate_left
        · intro w' hSw
          try dsimp only at hSw
          go_simp
          try with_reducible rfl
        try simp only [Act.put, List.getElem_toArray, List.getElem_cons_succ, List.getElem_cons_zero, List.setIfInBounds_toArray, List.set_cons_zero, List.set_cons_succ]
        refine wpAnyH_take (i := 4) (oi := _) (v := ?_) rfl (by kernel_rfl) (by kernel_rfl) (by kernel_rfl) (fun _ _ _ h => h) (Or.inl ⟨by rfl, ?_⟩) hHeld ?_
        rotate_left
        · intro w' hSw
          try dsimp only at hSw
          go_simp
          try with_reducible rfl
        try simp only [Act.put, List.getElem_toArray, List.getElem_cons_succ, List.getElem_cons_zero, List.setIfInBounds_toArray, List.set_cons_zero, List.set_cons_succ]
        refine wpAnyH_take (i := 5) (oi := _) (v := ?_) rfl (by kernel_rfl) (by kernel_rfl) (by kernel_rfl) (fun _ _ _ h => h) (Or.inl ⟨by rfl, ?_⟩) hHeld ?_
        rotate_left
        · intro w' hSw
          try dsimp only at hSw
          go_simp
          try with_reducible rfl
        try simp only [Act.put, List.getElem_toArray, List.getElem_cons_succ, List.getElem_cons_zero, List.setIfInBounds_toArray, List.set_cons_zero, List.set_cons_succ]
        refine wpAnyH_take (i := 6) (oi := _) (v := ?_) rfl (by kernel_rfl) (by kernel_rfl) (by kernel_rfl) (fun _ _ _ h => h) (Or.inl ⟨by rfl, ?_⟩) hHeld ?_
        rotate_left
        · intro w' hSw
          try dsimp only at hSw
          go_simp
          try with_reducible rfl
        try simp only [Act.put, List.getElem_toArray, List.getElem_cons_succ, List.getElem_cons_zero, List.setIfInBounds_toArray, List.set_cons_zero, List.set_cons_succ]
        refine wpAnyH_take (i := 7) (oi := _) (v := ?_) rfl (by kernel_rfl) (by kernel_rfl) (by kernel_rfl) (fun _ _ _ h => h) (Or.inl ⟨by rfl, ?_⟩) hHeld ?_
        rotate_left
        · intro w' hSw
          try dsimp only at hSw
          go_simp
          try with_reducible rfl
        try simp only [Act.put, List.getElem_toArray, List.getElem_cons_succ, List.getElem_cons_zero, List.setIfInBounds_toArray, List.set_cons_zero, List.set_cons_succ]
        refine wpAnyH_take (i := 8) (oi := _) (v := ?_) rfl (by kernel_rfl) (by kernel_rfl) (by kernel_rfl) (fun _ _ _ h => h) (Or.inl ⟨by rfl, ?_⟩) hHeld ?_
        rotate_left
        · intro w' hSw
          try dsimp only at hSw
          go_simp
          try with_reducible rfl
        try simp only [Act.put, List.getElem_toArray, List.getElem_cons_succ, List.getElem_cons_zero, List.setIfInBounds_toArray, List.set_cons_zero, List.set_cons_succ]
        refine wpAnyH_take (i := 9) (oi := _) (v := ?_) rfl (by kernel_rfl) (by kernel_rfl) (by kernel_rfl) (fun _ _ _ h => h) (Or.inl ⟨by rfl, ?_⟩) hHeld ?_
        rotate_left
        · intro w' hSw
          try dsimp only at hSw
          go_simp
          try with_reducible rfl
        try simp only [Act.put, List.getElem_toArray, List.getElem_cons_succ, List.getElem_cons_zero, List.setIfInBounds_toArray, List.set_cons_zero, List.set_cons_succ]
        refine wpAnyH_take (i := 10) (oi := _) (v := ?_) rfl (by kernel_rfl) (by kernel_rfl) (by kernel_rfl) (fun _ _ _ h => h) (Or.inl ⟨by rfl, ?_⟩) hHeld ?_
        rotate_left
        · intro w' hSw
          try dsimp only at hSw
          go_simp
          try with_reducible rfl
        try simp only [Act.put, List.getElem_toArray, List.getElem_cons_succ, List.getElem_cons_zero, List.setIfInBounds_toArray, List.set_cons_zero, List.set_cons_succ]
        refine wpAnyH_take (i := 11) (oi := _) (v := ?_) rfl (by kernel_rfl) (by kernel_rfl) (by kernel_rfl) (fun _ _ _ h => h) (Or.inl ⟨by rfl, ?_⟩) hHeld ?_
        rotate_left
        · intro w' hSw
          try dsimp only at hSw
          go_simp
          try with_reducible rfl
        try simp only [Act.put, List.getElem_toArray, List.getElem_cons_succ, List.getElem_cons_zero, List.setIfInBounds_toArray, List.set_cons_zero, List.set_cons_succ]
        refine wpAnyH_take (i := 12) (oi := _) (v := ?_) rfl (by kernel_rfl) (by kernel_rfl) (by kernel_rfl) (fun _ _ _ h => h) (Or.inl ⟨by rfl, ?_⟩) hHeld ?_
        rotate_left
        · intro w' hSw
          try dsimp only at hSw
          go_simp
          try with_reducible rfl
        try simp only [Act.put, List.getElem_toArray, List.getElem_cons_succ, List.getElem_cons_zero, List.setIfInBounds_toArray, List.set_cons_zero, List.set_cons_succ]
        refine wpAnyH_take (i := 13) (oi := _) (v := ?_) rfl (by kernel_rfl) (by kernel_rfl) (by kernel_rfl) (fun _ _ _ h => h) (Or.inl ⟨by rfl, ?_⟩) hHeld ?_
        rotate_left
        · intro w' hSw
          try dsimp only at hSw
          go_simp
          try with_reducible rfl
        try simp only [Act.put, List.getElem_toArray, List.getElem_cons_succ, List.getElem_cons_zero, List.setIfInBounds_toArray, List.set_cons_zero, List.set_cons_succ]
        refine wpAnyH_take (i := 14) (oi := _) (v := ?_) rfl (by kernel_rfl) (by kernel_rfl) (by kernel_rfl) (fun _ _ _ h => h) (Or.inl ⟨by rfl, ?_⟩) hHeld ?_
        rotate_left
        · intro w' hSw
          try dsimp only at hSw
          go_simp
          try with_reducible rfl
        try simp only [Act.put, List.getElem_toArray, List.getElem_cons_succ, List.getElem_cons_zero, List.setIfInBounds_toArray, List.set_cons_zero, List.set_cons_succ]
        refine wpAnyH_take (i := 15) (oi := _) (v := ?_) rfl (by kernel_rfl) (by kernel_rfl) (by kernel_rfl) (fun _ _ _ h => h) (Or.inl ⟨by rfl, ?_⟩) hHeld ?_
        rotate_left
        · intro w' hSw
          try dsimp only at hSw
          go_simp
          try with_reducible rfl
        try simp only [Act.put, List.getElem_toArray, List.getElem_cons_succ, List.getElem_cons_zero, List.setIfInBounds_toArray, List.set_cons_zero, List.set_cons_succ]
        refine wpAnyH_take (i := 16) (oi := _) (v := ?_) rfl (by kernel_rfl) (by kernel_rfl) (by kernel_rfl) (fun _ _ _ h => h) (Or.inl ⟨by rfl, ?_⟩) hHeld ?_
        rotate_left
        · intro w' hSw
          try dsimp only at hSw
          go_simp
          try with_reducible rfl
        try simp only [Act.put, List.getElem_toArray, List.getElem_cons_succ, List.getElem_cons_zero, List.setIfInBounds_toArray, List.set_cons_zero, List.set_cons_succ]
        refine wpAnyH_take (i := 17) (oi := _) (v := ?_) rfl (by kernel_rfl) (by kernel_rfl) (by kernel_rfl) (fun _ _ _ h => h) (Or.inl ⟨by rfl, ?_⟩) hHeld ?_
        rotate_left
        · intro w' hSw
          try dsimp only at hSw
          go_simp
          try with_reducible rfl
        try simp only [Act.put, List.getElem_toArray, List.getElem_cons_succ, List.getElem_cons_zero, List.setIfInBounds_toArray, List.set_cons_zero, List.set_cons_succ]
        refine wpAnyH_done (by kernel_rfl) ?_ _
        go_wp2_with fail
        refine bodyPost_ret (v := .tuple #[.pointer none, .pointer none, .bool true]) (by simp [results, Try.results9, go_sem, *]) rfl ?_
        exact Or.inr ⟨fun e => HR.out e.2, rfl, HE1.out.trans ((below_undrew k3).mono (Nat.le_of_lt HW.out))⟩
end Go.Proofs.Ytjjgihaikcnjgaa
/-
  A script as an argument, opened.
-/
namespace Go.Proofs.Ytjjgihaikcnjgaa
open Go.RowKit Go.ChangeShapes Go.WideShapes Go.ChangeAt Go.Deep
set_option linter.unusedSimpArgs false
set_option linter.unusedVariables false
set_option maxRecDepth 100000

structure Scr where
  size : Int
  sectors : Int
  frames : Int
  ops : List OpC
instance : Inhabited OpC := ⟨⟨0, 0, 0, 0, 0⟩⟩
def OpCellsC (w : World) (g p : Nat) (o : OpC) : Prop :=
  w.cell? ⟨g, p, none⟩ = some (.int .i64 o.kind) ∧ w.cell? ⟨g, p + 1, none⟩ = some (.int .i64 o.sector) ∧ w.cell? ⟨g, p + 2, none⟩ = some (.int .u8 o.fill) ∧ w.cell? ⟨g, p + 3, none⟩ = some (.int .i64 o.short) ∧ w.cell? ⟨g, p + 4, none⟩ = some (.int .u64 o.order)
def ScrAt (w : World) (v : Value) (x : Scr) : Prop :=
  ∃ a cap, v = scr x.size x.sectors x.frames (.slice a x.ops.length cap) ∧ x.ops.length ≤ 174762 ∧ (∀ o ∈ x.ops, o.Fine) ∧
    (0 < x.ops.length → ∃ g off, a = some ⟨g, off, none⟩ ∧ g < w.heap.size ∧ ∀ i (h : i < x.ops.length), OpCellsC w g (off + i * 5) x.ops[i])
section
variable {H : Type} {enc : TypeId × Value → H} {W : World}
theorem cells31 : Try.prog.cellsOf 31 = 5 := by kernel_rfl
theorem cells3 : Try.prog.cellsOf 3 = 1 := by kernel_rfl
theorem cells5 : Try.prog.cellsOf 5 = 1 := by kernel_rfl
theorem cells29 : Try.prog.cellsOf 29 = 1 := by kernel_rfl
theorem cells22 : Try.prog.cellsOf 22 = 1 := by kernel_rfl
theorem cells24 : Try.prog.cellsOf 24 = 4 := by kernel_rfl
theorem bulk_pos (d : DataW H) : 1 ≤ Rows.uptoBulk d := by
  cases d with
  | lit x => cases x <;> simp [Rows.uptoBulk]
  | _ => simp [Rows.uptoBulk]
theorem bulkAll_six : ∀ ds : List (DataW H), (∀ d ∈ ds, 6 ≤ Rows.uptoBulk d) → ds.length * 6 ≤ Rows.uptoBulkAll ds
  | [], _ => Nat.zero_le _
  | d :: r, h => by
    have h1 := h d (by simp)
    have h2 := bulkAll_six r (fun x hx => h x (by simp [hx]))
    simp only [List.length_cons, Rows.uptoBulkAll]; omega
theorem opc_of_open {fuel : Nat} {cs : List Value} {g p : Nat} {x : DataW H × List MemPlace} (hcs : W.cells? 0 ⟨g, p, none⟩ 5 = some cs) (h : DataW.trod enc Try.prog W 0 (fun _ => true) true fuel 31 cs = some x) :
    (∃ o : OpC, OpCellsC W g p o ∧ o.Fine) ∧ 6 ≤ Rows.uptoBulk x.1 := by
  obtain ⟨xs, n, _, rfl, hl, hlen, hf⟩ := DataW.trod_struct Try.underlying31 h
  obtain ⟨_, hl5, hc⟩ := World.cells?_some hcs
  match cs, hl5 with
  | [c0, c1, c2, c3, c4], _ =>
    match xs, hlen with
    | [y0, y1, y2, y3, y4], _ =>
      have t0 : DataW.trod enc Try.prog W 0 (fun _ => true) true n 3 [c0] = some y0 := by simpa [cells3] using hf 0 _ rfl
      have t1 : DataW.trod enc Try.prog W 0 (fun _ => true) true n 3 [c1] = some y1 := by simpa [cells3] using hf 1 _ rfl
      have t2 : DataW.trod enc Try.prog W 0 (fun _ => true) true n 5 [c2] = some y2 := by simpa [cells3, cells5] using hf 2 _ rfl
      have t3 : DataW.trod enc Try.prog W 0 (fun _ => true) true n 3 [c3] = some y3 := by simpa [cells3, cells5] using hf 3 _ rfl
      have t4 : DataW.trod enc Try.prog W 0 (fun _ => true) true n 29 [c4] = some y4 := by simpa [cells3, cells5, cells29] using hf 4 _ rfl
      obtain ⟨N0, h0, e0, w0⟩ := DataW.trod_int Try.underlying3 t0
      obtain ⟨N1, h1, e1, w1⟩ := DataW.trod_int Try.underlying3 t1
      obtain ⟨N2, h2, e2, w2⟩ := DataW.trod_int Try.underlying5 t2
      obtain ⟨N3, h3, e3, w3⟩ := DataW.trod_int Try.underlying3 t3
      obtain ⟨N4, h4, e4, w4⟩ := DataW.trod_int Try.underlying29 t4
      simp only [List.cons.injEq, and_true] at h0 h1 h2 h3 h4
      subst h0 h1 h2 h3 h4
      have b0 := bulk_pos y0.1
      have b1 := bulk_pos y1.1
      have b2 := bulk_pos y2.1
      have b3 := bulk_pos y3.1
      have b4 := bulk_pos y4.1
      simp [Lit.wf, IntKind.min, IntKind.max, IntKind.bits, IntKind.signed] at w1 w2 w3 w4
      have e := fun i hi => by have := hc i hi; rw [add_lit'] at this; exact this
      refine ⟨⟨⟨N0, N1, N2, N3, N4⟩, ⟨e 0 (by omega), e 1 (by omega), e 2 (by omega), e 3 (by omega), e 4 (by omega)⟩, ⟨by simp only; omega, by simp only; omega, by simp only; omega, by simp only; omega⟩⟩, ?_⟩
      simp only [List.map_cons, List.map_nil, Rows.uptoBulk, Rows.uptoBulkAll]
      omega
theorem open_opsC {fuel : Nat} {v : Value} {x : DataW H × List MemPlace} (h : DataW.trod enc Try.prog W 0 (fun _ => true) true fuel 22 [v] = some x) (hb : Rows.uptoBulk x.1 ≤ 1048576) :
    ∃ (l : List OpC) (a : Option Addr) (cap : Nat), v = .slice a l.length cap ∧ l.length ≤ 174762 ∧ (∀ o ∈ l, o.Fine) ∧ (0 < l.length → ∃ g off, a = some ⟨g, off, none⟩ ∧ g < W.heap.size ∧ ∀ i (h : i < l.length), OpCellsC W g (off + i * 5) l[i]) := by
  rcases open_slice Try.underlying22 h with ⟨hcs, rfl⟩ | ⟨a, len, cap, m, n, D, Pl, hcs, _, hl, hm, hmm, rfl, hall⟩
  · simp only [List.cons.injEq, and_true] at hcs
    subst hcs
    exact ⟨[], none, 0, rfl, by simp, by simp, fun h => by simp at h⟩
  · simp only [List.cons.injEq, and_true] at hcs
    subst hcs
    simp only [if_true] at hmm
    subst hmm
    rw [cells31] at hall
    by_cases h0 : 0 < len
    · have hsp : a.spot = none := by
        obtain ⟨cs', h1, _⟩ := hall 0 (by omega)
        obtain ⟨_, hl5, hc⟩ := World.cells?_some h1
        have := hc 0 (by omega)
        rw [List.getElem?_eq_getElem (by omega)] at this
        simpa [Addr.add] using World.cell?_spot this
      obtain ⟨g, off, sp⟩ := a
      simp only at hsp
      subst hsp
      have each : ∀ i, i < len → (∃ o : OpC, OpCellsC W g (off + i * 5) o ∧ o.Fine) ∧ 6 ≤ Rows.uptoBulk (D i) := fun i hi => by
        obtain ⟨cs', h1, h2⟩ := hall i (by omega)
        rw [add_lit'] at h1
        exact opc_of_open h1 h2
      obtain ⟨f, hf⟩ := choose_lt (fun i hi => (each i hi).1)
      have hg : g < W.heap.size := by have := cell_lt (hf 0 h0).1.1; exact this
      have hlb : len ≤ 174762 := by
        simp only [Rows.uptoBulk] at hb
        have := bulkAll_six ((List.range len).map D) (fun d hd => by
          obtain ⟨i, hi, rfl⟩ := List.mem_map.1 hd
          exact (each i (by simpa using hi)).2)
        simp only [List.length_map, List.length_range] at this
        omega
      refine ⟨(List.range len).map f, some ⟨g, off, none⟩, m, by simp, by simpa using hlb, fun o ho => ?_, fun _ => ⟨g, off, rfl, hg, fun i hi => ?_⟩⟩
      · obtain ⟨i, hi, rfl⟩ := List.mem_map.1 ho
        exact (hf i (by simpa using hi)).2
      · simp only [List.length_map, List.length_range] at hi
        simpa using (hf i hi).1
    · obtain rfl : len = 0 := by omega
      exact ⟨[], some a, m, rfl, by simp, by simp, fun h => by simp at h⟩
theorem open_script {base : Nat} {v : Value} {d : DataW H} {p : List MemPlace} (hv : Value.okWide Try.prog W .any base 24 v) (h : DataW.Trod enc Try.prog W 0 (fun _ => true) true 24 v d p) (hb : Rows.uptoBulk d ≤ 1048576) :
    ∃ x : Scr, ScrAt W v x := by
  obtain ⟨fuel, h⟩ := h
  obtain ⟨cs, rfl, hsz⟩ := okWide_struct Try.underlying24 hv
  rw [cells24] at hsz
  obtain ⟨xs, n, _, hx, hl, hlen, hf⟩ := DataW.trod_struct Try.underlying24 h
  simp only [Prod.mk.injEq] at hx
  obtain ⟨rfl, _⟩ := hx
  have hc : (Value.agg cs).cells.toList = cs.toList := rfl
  rw [hc] at hf hl
  match hcs : cs.toList, (show cs.toList.length = 4 by simpa using hsz) with
  | [c0, c1, c2, c3], _ =>
    rw [hcs] at hf
    match xs, hlen with
    | [y0, y1, y2, y3], _ =>
      have t0 : DataW.trod enc Try.prog W 0 (fun _ => true) true n 3 [c0] = some y0 := by simpa [cells3] using hf 0 _ rfl
      have t1 : DataW.trod enc Try.prog W 0 (fun _ => true) true n 3 [c1] = some y1 := by simpa [cells3] using hf 1 _ rfl
      have t2 : DataW.trod enc Try.prog W 0 (fun _ => true) true n 3 [c2] = some y2 := by simpa [cells3] using hf 2 _ rfl
      have t3 : DataW.trod enc Try.prog W 0 (fun _ => true) true n 22 [c3] = some y3 := by simpa [cells3, cells22] using hf 3 _ rfl
      obtain ⟨N0, h0, _, _⟩ := DataW.trod_int Try.underlying3 t0
      obtain ⟨N1, h1, _, _⟩ := DataW.trod_int Try.underlying3 t1
      obtain ⟨N2, h2, _, _⟩ := DataW.trod_int Try.underlying3 t2
      simp only [List.map_cons, List.map_nil, Rows.uptoBulk, Rows.uptoBulkAll] at hb
      obtain ⟨l, a, cap, rfl, m1, m2, m3⟩ := open_opsC t3 (by omega)
      simp only [List.cons.injEq, and_true] at h0 h1 h2
      subst h0 h1 h2
      refine ⟨⟨N0, N1, N2, l⟩, a, cap, ?_, m1, m2, m3⟩
      unfold scr
      congr 1
      apply Array.ext'
      rw [hcs]
end
end Go.Proofs.Ytjjgihaikcnjgaa
