/-
  The document's number; parts of a slice of bytes; what a reader says at a mark: plain.
-/
import Derived.Test.YtjdkalimaldofaaNRd5
namespace Go.Proofs.Ytjdkalimaldofaa
open Go.RowKit
set_option linter.unusedSimpArgs false
set_option linter.unusedVariables false
theorem slice_mid {w : World} {own : Nat → Prop} {a : Option Addr} {n cap : Nat} {l : List Int} (h : RdAt w own 1 (.slice a n cap) n (bcells l)) (lo m : Nat) (hle : lo + m ≤ n) (LO HI : Int) (hLO : LO = (lo : Int)) (hHI : HI = ((lo + m : Nat) : Int)) :
    ∃ a2 c2, (∀ W, (Instr.slice 36 (.slice a n cap) (some (.int .i64 LO)) (some (.int .i64 HI)) none).run Try.prog W = .ok (.slice a2 m c2) W) ∧ RdAt w own 1 (.slice a2 m c2) ((l.drop lo).take m).length (bcells ((l.drop lo).take m)) := by
  subst hLO
  subst hHI
  obtain ⟨i5, hi5, hz0, hz1, hz2⟩ := info_parts info5
  have hlen : l.length = n := by have := h.1; simpa using this
  obtain ⟨h1, a', cap', he, h2, h3, h4⟩ := h
  injection he with e1 e2 e3
  subst e1
  subst e3
  have hm : ((l.drop lo).take m).length = m := by rw [List.length_take, List.length_drop]; omega
  refine ⟨if cap = lo then a else a.map (·.add (lo * 1)), cap - lo, fun W => ?_, ?_⟩
  · rw [run_slice_lh (P := Try.prog) W 36 a n cap (by rw [elem_of Try.underlying36]; exact Try.underlying36) .i64 .i64 (lo : Int) ((lo + m : Nat) : Int) (by omega) (by omega) (by omega)]
    rw [elem_of Try.underlying36, size_run hi5, hz1]
    simp only [Result.andThen, sliced, Int.toNat_natCast]
    rw [show lo + m - lo = m by omega]
  · refine ⟨by rw [bcells_len, Nat.mul_one], _, _, by rw [hm], by omega, by omega, fun hn => ?_⟩
    obtain ⟨g, off, rfl, h5, h6, h7⟩ := h4 (by omega)
    refine ⟨g, off + lo, ?_, h5, h6, fun j u hj => ?_⟩
    · rw [if_neg (by omega)]
      simp [add_lit']
    · have hj2 : (bcells l)[lo + j]? = some u := by
        have hlt : j < ((l.drop lo).take m).length := by
          have := (List.getElem?_eq_some_iff.1 hj).1
          simpa using this
        rw [bcells_get hlt] at hj
        rw [bcells_get (by omega)]
        simpa using hj
      have := h7 _ _ hj2
      rw [show off + lo + j = off + (lo + j) by omega]
      exact this
set_option maxRecDepth 100000 in
theorem number_any (w : World) (own : Nat → Prop) (a : Option Addr) (m cap : Nat) (l : List Int) (hx : RdAt w own 1 (.slice a m cap) l.length (bcells l)) (hm : l.length = m) (h4 : m ≤ 4) (hb : OkB l) :
    Calls Try.prog 82 #[.slice a m cap] w fun e w' => e = .returned (.int .i64 (numTo (strOfNums l) m)) ∧ w' = w := by
  subst hm
  have hgt : ∀ k (h : k < l.length), byteAt (strOfNums l) k = l[k] := fun k h => byteAt_str l k h (hb _ (List.getElem_mem h))
  have hbk : ∀ k (h : k < l.length), 0 ≤ l[k] ∧ l[k] ≤ 255 := fun k h => hb _ (List.getElem_mem h)
  have HG := Lib.hid hgt
  have HB := Lib.hid hbk
  clear hgt hbk hb
  go_enter Try.func82, Try.ntmps82
  go_wp2_with fail
  go_loopw [3, 4] (fun c i wr => ∃ k : Nat, k ≤ l.length ∧ c = .int .i64 (numTo (strOfNums l) k) ∧ i = .int .i64 k ∧ wr = w) (fun _ i _ => l.length - (intOf i).toNat)
  case atStart => exact ⟨0, by omega, rfl, rfl, rfl⟩
  case round =>
    obtain ⟨k, hk, rfl, rfl, rfl⟩ := hrel
    have i0 : (0 : Int) ≤ (k : Int) := by omega
    by_cases hlt : k < l.length
    · have i1 : (k : Int) < (l.length : Int) := by omega
      obtain ⟨g, off, rfl, _, hg, hc⟩ := hx.get (by omega)
      have c1 := hc k _ (bcells_get hlt)
      have hb := HB.out k hlt
      have hx := numTo_in (strOfNums l) k
      have hp : (256 : Int) ^ k ≤ 16777216 := by
        have : k = 0 ∨ k = 1 ∨ k = 2 ∨ k = 3 := by omega
        rcases this with rfl | rfl | rfl | rfl <;> decide
      have hs : numTo (strOfNums l) (k + 1) = numTo (strOfNums l) k * 256 + l[k] := by rw [numTo, HG.out k hlt]
      have HS := Lib.hid hs
      clear hc hs
      generalize numTo (strOfNums l) k = X at *
      generalize l[k] = Y at *
      have w1 : IntKind.i64.wrap (X * 256) = X * 256 := IntWalk.i64_in _ ⟨by omega, by omega⟩
      have w2 : IntKind.i64.wrap Y = Y := IntWalk.i64_in _ ⟨by omega, by omega⟩
      have w3 : IntKind.i64.wrap (X * 256 + Y) = X * 256 + Y := IntWalk.i64_in _ ⟨by omega, by omega⟩
      go_wp2_with fail
      go_roundw
      case rel => exact ⟨k + 1, by omega, by rw [HS.out], by go_num, trivial⟩
      case measure => simp [intOf]; omega
    · obtain rfl : k = l.length := by omega
      go_wp2_with fail
      go_ret
      exact ⟨rfl, rfl⟩
theorem raw_drop {l : List Int} {k : Nat} (h : k ≤ l.length) : (⟨strOfNums l, 0⟩ : RS).raw k = ⟨strOfNums (l.drop k), 0⟩ := by
  have := raw_str (l.take k) (l.drop k) (k := k) (by rw [List.length_take]; omega)
  rwa [List.take_append_drop] at this
theorem txt_take {l : List Int} {k : Nat} (h : k ≤ l.length) : (⟨strOfNums l, 0⟩ : RS).txt k = strOfNums (l.take k) := by
  have := txt_str (l.take k) (l.drop k) (k := k) (by rw [List.length_take]; omega)
  rwa [List.take_append_drop] at this
theorem num_take {l : List Int} {k : Nat} (h : k ≤ l.length) : (⟨strOfNums l, 0⟩ : RS).num k = numTo (strOfNums (l.take k)) k := by
  have hl : (l.take k).length = k := by rw [List.length_take]; omega
  have := num_str (l.take k) (l.drop k) (k := k) hl.symm
  rwa [List.take_append_drop, hl] at this
theorem num_at {xs : List Int} (hb : OkB xs) {a : Nat} (h : a < xs.length) : (⟨strOfNums (xs.drop a), 0⟩ : RS).num 1 = xs[a] := by
  rw [List.drop_eq_getElem_cons h]
  exact num_be1 xs[a] (xs.drop (a + 1)) (hb _ (List.getElem_mem h))
theorem raw_short' {l : List Int} {k : Nat} (h : l.length < k) : ((⟨strOfNums l, 0⟩ : RS).raw k).e ≠ 0 := by
  unfold RS.raw rawE
  dsimp only
  rw [if_pos rfl, if_neg (by rw [strOfNums_size]; omega)]
  decide
theorem raw_stays' {r : RS} (h : r.e ≠ 0) (k : Nat) : (r.raw k).e ≠ 0 := by
  unfold RS.raw
  dsimp only
  rw [rawE_stays h]
  exact h
theorem drop_plus (xs : List Int) (a b : Nat) : (xs.drop a).drop b = xs.drop (a + b) := by rw [List.drop_drop]
/-- a leaf's round at a mark -/
theorem leaf_at {xs : List Int} (hb : OkB xs) {t : RSt} {a : Nat} (ha : a ≤ xs.length) (hr : t.r = ⟨strOfNums (xs.drop a), 0⟩) :
    (xs.length < a + 2 → t.leafStep.r.e ≠ 0) ∧ ∀ (h : a + 2 ≤ xs.length) (kn vn : Nat), xs[a] = (kn : Int) → xs[a + 1] = (vn : Int) →
      (xs.length < a + 2 + kn + vn → t.leafStep.r.e ≠ 0) ∧ (a + 2 + kn + vn ≤ xs.length → t.leafStep = ⟨t.keys ++ [strOfNums ((xs.drop (a + 2)).take kn)], t.values ++ [strOfNums ((xs.drop (a + 2 + kn)).take vn)], t.kids, ⟨strOfNums (xs.drop (a + 2 + kn + vn)), 0⟩⟩) := by
  unfold RSt.leafStep
  rw [hr]
  refine ⟨fun h => ?_, fun h kn vn hk hv => ?_⟩
  · refine raw_stays' (raw_stays' ?_ _) _
    by_cases h1 : a + 1 ≤ xs.length
    · rw [raw_drop (by rw [List.length_drop]; omega)]
      exact raw_short' (by rw [List.length_drop, List.length_drop]; omega)
    · exact raw_stays' (raw_short' (by rw [List.length_drop]; omega)) _
  · have e1 : (⟨strOfNums (xs.drop a), 0⟩ : RS).num 1 = (kn : Int) := (num_at hb (by omega)).trans hk
    have e2 : (⟨strOfNums (xs.drop (a + 1)), 0⟩ : RS).num 1 = (vn : Int) := (num_at hb (by omega)).trans hv
    have r1 : (⟨strOfNums (xs.drop a), 0⟩ : RS).raw 1 = ⟨strOfNums (xs.drop (a + 1)), 0⟩ := by rw [raw_drop (by rw [List.length_drop]; omega), drop_plus]
    have r2 : (⟨strOfNums (xs.drop (a + 1)), 0⟩ : RS).raw 1 = ⟨strOfNums (xs.drop (a + 2)), 0⟩ := by rw [raw_drop (by rw [List.length_drop]; omega), drop_plus]
    dsimp only
    rw [e1, r1, e2, r2, show ((kn : Int)).toNat = kn from rfl, show ((vn : Int)).toNat = vn from rfl]
    refine ⟨fun hs => ?_, fun hs => ?_⟩
    · by_cases h1 : a + 2 + kn ≤ xs.length
      · rw [raw_drop (by rw [List.length_drop]; omega), drop_plus]
        exact raw_short' (by rw [List.length_drop]; omega)
      · exact raw_stays' (raw_short' (by rw [List.length_drop]; omega)) _
    · rw [txt_take (by rw [List.length_drop]; omega), raw_drop (k := kn) (by rw [List.length_drop]; omega), drop_plus, txt_take (by rw [List.length_drop]; omega), raw_drop (by rw [List.length_drop]; omega), drop_plus]
/-- an inner node's round at a mark -/
theorem inner_at {xs : List Int} (hb : OkB xs) {t : RSt} {a : Nat} (ha : a ≤ xs.length) (hr : t.r = ⟨strOfNums (xs.drop a), 0⟩) :
    (xs.length < a + 2 → t.innerStep.r.e ≠ 0) ∧ ∀ (h : a + 2 ≤ xs.length) (kn : Nat), xs[a] = (kn : Int) →
      (xs.length < a + 1 + kn + 4 → t.innerStep.r.e ≠ 0) ∧ (a + 1 + kn + 4 ≤ xs.length → t.innerStep = ⟨t.keys ++ [strOfNums ((xs.drop (a + 1)).take kn)], t.values, t.kids ++ [numTo (strOfNums ((xs.drop (a + 1 + kn)).take 4)) 4], ⟨strOfNums (xs.drop (a + 1 + kn + 4)), 0⟩⟩) := by
  unfold RSt.innerStep
  rw [hr]
  refine ⟨fun h => ?_, fun h kn hk => ?_⟩
  · dsimp only
    by_cases h1 : a + 1 ≤ xs.length
    · rw [raw_drop (k := 1) (by rw [List.length_drop]; omega), drop_plus]
      generalize ((⟨strOfNums (xs.drop a), 0⟩ : RS).num 1).toNat = q
      by_cases h2 : a + 1 + q ≤ xs.length
      · rw [raw_drop (k := q) (by rw [List.length_drop]; omega), drop_plus]
        exact raw_short' (by rw [List.length_drop]; omega)
      · exact raw_stays' (raw_short' (by rw [List.length_drop]; omega)) _
    · exact raw_stays' (raw_stays' (raw_short' (by rw [List.length_drop]; omega)) _) _
  · have e1 : (⟨strOfNums (xs.drop a), 0⟩ : RS).num 1 = (kn : Int) := (num_at hb (by omega)).trans hk
    have r1 : (⟨strOfNums (xs.drop a), 0⟩ : RS).raw 1 = ⟨strOfNums (xs.drop (a + 1)), 0⟩ := by rw [raw_drop (by rw [List.length_drop]; omega), drop_plus]
    dsimp only
    rw [e1, r1, show ((kn : Int)).toNat = kn from rfl]
    refine ⟨fun hs => ?_, fun hs => ?_⟩
    · by_cases h1 : a + 1 + kn ≤ xs.length
      · rw [raw_drop (by rw [List.length_drop]; omega), drop_plus]
        exact raw_short' (by rw [List.length_drop]; omega)
      · exact raw_stays' (raw_short' (by rw [List.length_drop]; omega)) _
    · rw [txt_take (by rw [List.length_drop]; omega), raw_drop (k := kn) (by rw [List.length_drop]; omega), drop_plus, num_take (by rw [List.length_drop]; omega), raw_drop (by rw [List.length_drop]; omega), drop_plus]
/-- the header's marks, of any bytes -/
theorem marks_at {xs : List Int} (hb : OkB xs) (h : 16 ≤ xs.length) : pKind (strOfNums xs) = xs[4] ∧ pKeys (strOfNums xs) = numTo (strOfNums ((xs.drop 6).take 2)) 2 ∧ pr5 (strOfNums xs) = ⟨strOfNums (xs.drop 16), 0⟩ := by
  have h1 : pr1 (strOfNums xs) = ⟨strOfNums (xs.drop 4), 0⟩ := raw_drop (by omega)
  have h3 : pr3 (strOfNums xs) = ⟨strOfNums (xs.drop 6), 0⟩ := by
    unfold pr3
    rw [h1, raw_drop (by rw [List.length_drop]; omega), drop_plus, raw_drop (by rw [List.length_drop]; omega), drop_plus]
  refine ⟨?_, ?_, ?_⟩
  · unfold pKind
    rw [h1, num_at hb (by omega)]
  · unfold pKeys
    rw [h3, num_take (by rw [List.length_drop]; omega)]
  · unfold pr5
    rw [h3, raw_drop (by rw [List.length_drop]; omega), drop_plus, raw_drop (by rw [List.length_drop]; omega), drop_plus]
end Go.Proofs.Ytjdkalimaldofaa
