/-
  order and rising of CacheOrdered.
-/
import Derived.Test.YtjjgihaikcnjgaaCOrdP
import Derived.Test.YtjjgihaikcnjgaaCHolds
namespace Go.Proofs.Ytjjgihaikcnjgaa
open Go.RowKit Go.Maps
set_option linter.unusedSimpArgs false
set_option linter.unusedVariables false
set_option maxRecDepth 100000

set_option maxHeartbeats 2000000 in
theorem order_any (w : World) (own : Nat → Prop) (a : Option Addr) (cap : Nat) (F : List Frm) (hF : RdAt w own 4 (.slice a F.length cap) F.length (fcells F)) (hl : F.length ≤ 4096) (n : Int) :
    Calls Try.prog 49 #[.slice a F.length cap, .int .i64 n] w fun e w' => e = .returned (.tuple #[.int .u64 (ordL F n).1, .bool (ordL F n).2]) ∧ Below w.heap.size w w' := by
  have HF := Lib.hid hF
  clear hF
  go_enter Try.func49, Try.ntmps49
  go_wp2_with fail
  go_loopw [10] (fun i wr => ∃ j : Nat, j ≤ F.length ∧ i = .int .i64 j ∧ Hid (∀ i (hi : i < j) (hi2 : i < F.length), Frm.hit n F[i] = false) ∧ Below w.heap.size w wr) (fun i _ => F.length - (intOf i).toNat)
  case atStart => exact ⟨0, Nat.zero_le _, rfl, fun i hi => by omega, Below.refl _ _⟩
  case round =>
    obtain ⟨j, hj, rfl, hno, hb⟩ := hrel
    have j0 : (0 : Int) ≤ (j : Int) := by omega
    have j9 : (j : Int) ≤ 4096 := by omega
    by_cases hjn : j < F.length
    · have j1 : (j : Int) < (F.length : Int) := by omega
      obtain ⟨g, off, rfl, hg, q0, q1, q2, q3⟩ := frame_cells rfl (HF.out.below hb) hjn
      have HB := Lib.hid hb
      have HHIT : Hid (Frm.hit n F[j] = true → ordL F n = (F[j].order, true)) := fun hp => ordL_hit hjn (fun i hi => hno.out i hi (by omega)) hp
      have HNEXT : Hid (Frm.hit n F[j] = false → ∀ i (hi : i < j + 1) (hi2 : i < F.length), Frm.hit n F[i] = false) := fun hp i hi hi2 => by
        by_cases e : i = j
        · subst e; exact hp
        · exact hno.out i (by omega) hi2
      clear hb hno
      generalize F[j] = fj at *
      obtain ⟨fs, fp, fd, fo, fb⟩ := fj
      simp only at q0 q1 q2 q3
      cases hs : (fs == n) with
      | false =>
        have HN := Lib.hid (HNEXT.out (by show (_ == _ && _) = _; rw [hs]; rfl))
        clear HHIT HNEXT
        go_wp2_with fail
        go_roundw
        case rel => exact ⟨j + 1, by omega, by go_num, HN.out, HB.out.alloc HB.out.size _⟩
        case measure => simp [intOf]; omega
      | true =>
        cases fd with
        | false =>
          have HN := Lib.hid (HNEXT.out (by show (_ == _ && _) = _; rw [hs]; rfl))
          clear HHIT HNEXT
          go_wp2_with fail
          go_roundw
          case rel => exact ⟨j + 1, by omega, by go_num, HN.out, HB.out.alloc HB.out.size _⟩
          case measure => simp [intOf]; omega
        | true =>
          have HH := Lib.hid (HHIT.out (by show (_ == _ && _) = _; rw [hs]; rfl))
          clear HHIT HNEXT
          go_wp2_with fail
          refine bodyPost_ret (v := .tuple #[.int .u64 fo, .bool true]) (by simp [results, Try.results49, go_sem, *]) rfl ?_
          rw [HH.out]
          exact ⟨rfl, HB.out.alloc HB.out.size _⟩
    · have HH := Lib.hid (ordL_none (l := F) (n := n) (fun i hi => hno.out i (by omega) hi))
      have HB := Lib.hid hb
      obtain rfl : j = F.length := by omega
      clear hb hno
      go_wp2_with fail
      refine bodyPost_ret (v := .tuple #[.int .u64 0, .bool false]) (by simp [results, Try.results49, go_sem, *]) rfl ?_
      rw [HH.out]
      exact ⟨rfl, HB.out⟩
/-- the order of the one that was written last -/
def lastL (L : List Frm) : Nat → Int
  | 0 => 0
  | j + 1 => (L[j]?.map Frm.order).getD 0
theorem lastL_succ {L : List Frm} {j : Nat} (h : j < L.length) : lastL L (j + 1) = L[j].order := by simp [lastL, h]
theorem lastL_up {F L G : List Frm} {kind sec : Int} (r : Rises F L G kind sec) {j : Nat} (h0 : 0 < j) (h : j < L.length) : decide (L[j].order < lastL L j) = false := by
  obtain ⟨i, rfl⟩ : ∃ i, j = i + 1 := ⟨j - 1, by omega⟩
  rw [lastL_succ (by omega)]
  have := r.up i h
  simp; omega
theorem lastL_end {L : List Frm} (h : 0 < L.length) : lastL L L.length = (L[L.length - 1]'(by omega)).order := by
  obtain ⟨i, hi⟩ : ∃ i, L.length = i + 1 := ⟨L.length - 1, by omega⟩
  have e := lastL_succ (L := L) (j := i) (by omega)
  simp only [hi, Nat.add_sub_cancel]
  exact e
def opV (k s f h o : Int) : Value := .agg #[.int .i64 k, .int .i64 s, .int .u8 f, .int .i64 h, .int .u64 o]
set_option maxHeartbeats 4000000 in
theorem rising_any (w : World) (own own1 own2 : Nat → Prop) (a a1 a2 : Option Addr) (cap cap1 cap2 : Nat) (F L G : List Frm) (kind sec fl sh od : Int)
    (hF : RdAt w own 4 (.slice a F.length cap) F.length (fcells F)) (hL : RdAt w own1 1 (.slice a1 L.length cap1) L.length (L.map (fun f => .int .i64 f.sector))) (hG : RdAt w own2 4 (.slice a2 G.length cap2) G.length (fcells G))
    (lF : F.length ≤ 4096) (lL : L.length ≤ 1073741824) (lG : G.length ≤ 4096) (hr : Rises F L G kind sec) :
    Calls Try.prog 20 #[.slice a1 L.length cap1, .slice a F.length cap, .slice a2 G.length cap2, opV kind sec fl sh od] w fun e w' => e = .returned (.bool true) ∧ Below w.heap.size w w' := by
  have B1 : Below w.heap.size w (w.alloc (.cells #[.int .i64 kind, .int .i64 sec, .int .u8 fl, .int .i64 sh, .int .u64 od] 31)) := (Below.refl _ _).alloc (Nat.le_refl _) _
  have b1 := block_new w (.cells #[.int .i64 kind, .int .i64 sec, .int .u8 fl, .int .i64 sh, .int .u64 od] 31)
  have HF := Lib.hid (hF.below B1)
  have HL := Lib.hid (hL.below B1)
  have HG := Lib.hid (hG.below B1)
  have HR := Lib.hid hr
  clear hF hL hG hr
  unfold opV
  go_enter Try.func20, Try.ntmps20
  go_wp2_with fail
  generalize w.alloc (.cells #[.int .i64 kind, .int .i64 sec, .int .u8 fl, .int .i64 sh, .int .u64 od] 31) = w1 at *
  generalize hOe : w.heap.size = O at *
  have HOE := Lib.hid hOe
  clear hOe
  have hO : O < w1.heap.size := lt_of_block b1
  have HBO := Lib.hid b1
  have HB1 := Lib.hid B1
  clear b1 B1
  go_loopw [9, 20] (fun last i wr => ∃ j : Nat, j ≤ L.length ∧ i = .int .i64 j ∧ last = .int .u64 (lastL L j) ∧ Below w1.heap.size w1 wr) (fun _ i _ => L.length - (intOf i).toNat)
  case atStart => exact ⟨0, Nat.zero_le _, rfl, rfl, Below.refl _ _⟩
  case round =>
    obtain ⟨j, hj, rfl, rfl, hb⟩ := hrel
    have j0 : (0 : Int) ≤ (j : Int) := by omega
    have j9 : (j : Int) ≤ 1073741824 := by omega
    by_cases hjn : j < L.length
    · have j1 : (j : Int) < (L.length : Int) := by omega
      obtain ⟨g, off, rfl, _, hg, hc⟩ := (HL.out.below hb).get (by omega)
      have q0 := hc j (.int .i64 L[j].sector) (by simp [hjn])
      have HW := Lib.hid (HR.out.was j hjn)
      have HUP := Lib.hid (fun h0 => lastL_up HR.out (j := j) h0 hjn)
      have HLS := Lib.hid (lastL_succ hjn)
      have HB := Lib.hid hb
      clear hb hc
      generalize L[j] = fj at *
      generalize lastL L j = la at *
      go_wp2_with fail
      refine (order_any wr own a cap F (HF.out.below HB.out) lF fj.sector).mono ?_
      rintro e w2 ⟨rfl, k2⟩
      rw [HW.out]
      have HB2 := Lib.hid (HB.out.trans (k2.mono HB.out.size))
      clear q0 k2
      by_cases h0 : 0 < j
      · have hlt := HUP.out h0
        have h0' : (0 : Int) < (j : Int) := by omega
        go_wp2_with fail
        go_roundw
        case rel => exact ⟨j + 1, by omega, by go_num, by rw [HLS.out], HB2.out⟩
        case measure => simp [intOf]; omega
      · obtain rfl : j = 0 := by omega
        go_wp2_with fail
        go_roundw
        case rel => exact ⟨1, by omega, by go_num, by rw [← HLS.out], HB2.out⟩
        case measure => simp [intOf]; omega
    · obtain rfl : j = L.length := by omega
      have HB := Lib.hid hb
      clear hb
      by_cases hz : L.length = 0
      · rw [hz] at *
        go_wp2_with fail
        go_ret
        rw [HOE.out]
        exact ⟨rfl, HB1.out.trans (HB.out.mono (by omega))⟩
      · have hz' : ((L.length : Int) == 0) = false := beq_false_of_ne (by omega)
        have HEND := Lib.hid (lastL_end (L := L) (by omega))
        rw [HEND.out]
        have HLEFT : Hid (∀ g ∈ G, (g.dirty && ((ordL F g.sector).2 && (decide ((ordL F g.sector).1 < (L[L.length - 1]'(by omega)).order) && !(kind == 3 && g.sector == sec)))) = false) := fun g hg => HR.out.left g hg (by omega)
        clear HEND HR
        generalize (L[L.length - 1]'(by omega)).order = la at *
        go_wp2_with fail
        go_loopw [49] (fun i wr => ∃ j : Nat, j ≤ G.length ∧ i = .int .i64 j ∧ Below w1.heap.size w1 wr) (fun i _ => G.length - (intOf i).toNat)
        case atStart => exact ⟨0, Nat.zero_le _, rfl, HB.out⟩
        case round =>
          obtain ⟨j, hj', rfl, hb⟩ := hrel
          clear j0 j9
          have j0 : (0 : Int) ≤ (j : Int) := by omega
          have j9 : (j : Int) ≤ 4096 := by omega
          by_cases hjn' : j < G.length
          · have j1 : (j : Int) < (G.length : Int) := by omega
            obtain ⟨g, off, rfl, hg, q0, q1, q2, q3⟩ := frame_cells rfl (HG.out.below hb) hjn'
            have HLF := Lib.hid (HLEFT.out _ (List.getElem_mem hjn'))
            have HBr := Lib.hid hb
            clear hb
            generalize G[j] = fj at *
            obtain ⟨fs, fp, fd, fo, fb⟩ := fj
            simp only at q0 q1 q2 q3 HLF
            go_wp2_with fail
            have bF := block_new wr (.cells #[.int .i64 fs, .int .i64 fp, .bool fd, .int .u64 fo] 43)
            have KF : Below w1.heap.size w1 (wr.alloc (.cells #[.int .i64 fs, .int .i64 fp, .bool fd, .int .u64 fo] 43)) := HBr.out.alloc HBr.out.size _
            generalize wr.alloc (.cells #[.int .i64 fs, .int .i64 fp, .bool fd, .int .u64 fo] 43) = w2 at *
            have hOF : O < wr.heap.size := by have := HBr.out.size; omega
            generalize wr.heap.size = P at *
            have HKF := Lib.hid KF
            have BF := Lib.hid bF
            clear bF KF q0 q1 q2 q3
            refine (order_any w2 own a cap F (HF.out.below HKF.out) lF fs).mono ?_
            rintro e w3 ⟨rfl, k3⟩
            have HB3 := Lib.hid (HKF.out.trans (k3.mono HKF.out.size))
            have bf := below_keeps k3 BF.out (lt_of_block BF.out)
            have bo := below_keeps HB3.out HBO.out hO
            have f0 : w3.cell? ⟨P, 0, none⟩ = some (.int .i64 fs) := by rw [cell_of_block bf]; rfl
            have f2 : w3.cell? ⟨P, 2, none⟩ = some (.bool fd) := by rw [cell_of_block bf]; rfl
            have o0 : w3.cell? ⟨O, 0, none⟩ = some (.int .i64 kind) := by rw [cell_of_block bo]; rfl
            have o1 : w3.cell? ⟨O, 1, none⟩ = some (.int .i64 sec) := by rw [cell_of_block bo]; rfl
            clear k3 bf bo
            generalize ordL F fs = r at *
            obtain ⟨x, b⟩ := r
            simp only at HLF ⊢
            cases fd with
            | false =>
              clear HLF
              go_wp2_with fail
              go_roundw
              case rel => exact ⟨j + 1, by omega, by go_num, HB3.out⟩
              case measure => simp [intOf]; omega
            | true =>
              cases b with
              | false =>
                clear HLF
                go_wp2_with fail
                go_roundw
                case rel => exact ⟨j + 1, by omega, by go_num, HB3.out⟩
                case measure => simp [intOf]; omega
              | true =>
                cases hlt : decide (x < la) with
                | false =>
                  clear HLF
                  go_wp2_with fail
                  go_roundw
                  case rel => exact ⟨j + 1, by omega, by go_num, HB3.out⟩
                  case measure => simp [intOf]; omega
                | true =>
                  have hk : (kind == 3) = true ∧ (fs == sec) = true := by
                    have h := HLF.out
                    rw [hlt] at h
                    simpa using h
                  have hk1 := hk.1
                  have hk2 := hk.2
                  clear HLF hk
                  go_wp2_with fail
                  go_roundw
                  case rel => exact ⟨j + 1, by omega, by go_num, HB3.out⟩
                  case measure => simp [intOf]; omega
          · obtain rfl : j = G.length := by omega
            have HBr := Lib.hid hb
            clear hb
            go_wp2_with fail
            go_ret
            rw [HOE.out]
            exact ⟨rfl, HB1.out.trans (HBr.out.mono (by omega))⟩
end Go.Proofs.Ytjjgihaikcnjgaa
