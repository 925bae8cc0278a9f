/-
  The calls as the laws make them; awake.
-/
import Derived.Test.YtjjgihaikcnjgaaCLaw1
import Derived.Test.YtjjgihaikcnjgaaCOps
namespace Go.Proofs.Ytjjgihaikcnjgaa
open Go.RowKit Go.Maps
set_option linter.unusedSimpArgs false
set_option linter.unusedVariables false
set_option maxRecDepth 100000

theorem Env.kstep {W w w' : World} {c : Nat} {col col' : Nat → Nat} (h : Env W col w) (k : KStep c col col' w w') (hc : 1 < c) : Env W col' w' :=
  ⟨k.norm, fun i hi => (k.ext i (Nat.lt_of_lt_of_le hi h.size)).trans (h.zero i hi), chg_grow h.bel (Nat.le_refl _) k.chg (fun i hi e => by have := h.zero i hi; unfold inK at e; omega)⟩
theorem CacheAt.below {w w' : World} {col : Nat → Nat} {c b db : Nat} {s : CS} (h : CacheAt w col c b db s) (k : Below w.heap.size w w') : CacheAt w' col c b db s := by
  obtain ⟨rb, mb, ns, h⟩ := h; exact ⟨rb, mb, ns, h.below k⟩
theorem put_law {w : World} {col : Nat → Nat} {c b db : Nat} {s : CS} (h : CacheAt w col c b db s) (hc : 1 < c) (hnm : Norm w col) (ok : s.Ok) (hp : s.d.pending.length ≤ 1073690000) (n : Int) (hn : i64 n) (v : Value) (l : List Int) (o : Int) (hv : RdAt w (Nil0 col) 1 v l.length (bcells l)) :
    Calls Try.prog 14 #[ptr b, .int .i64 n, v, .int .u64 o] w fun e w' => e = .returned (.int .i64 (s.put n l o).1) ∧ Now w col c b db (s.put n l o).2 w' (fun _ => True) := by
  obtain ⟨rb, mb, ns, h⟩ := h
  by_cases hf : 0 ≤ n ∧ n < s.d.count ∧ (l.length : Int) = s.d.size
  · exact cput_ok h hc hnm ok hp n hn v l o hv hf
  · have e : s.put n l o = (30, s) := by unfold CS.put; rw [if_neg hf]
    rw [e]
    refine (cput_bad h hc hnm ok n hn v l o hv hf).mono ?_
    rintro e w' ⟨rfl, rfl⟩
    exact ⟨rfl, col, ⟨rb, mb, ns, h⟩, KStep.refl c hnm, trivial⟩
theorem bytes_bound {s : CS} (ok : s.Ok) : s.lastBytes.length ≤ 4096 := by
  unfold CS.lastBytes
  rcases List.eq_nil_or_concat s.frames with h | ⟨m, f, h⟩
  · rw [h]; simp
  · have hf : f ∈ s.frames := by rw [h]; simp
    rw [h]
    have := ok.size f hf
    have := ok.d.size1
    simp; omega
theorem get_law {w : World} {col : Nat → Nat} {c b db : Nat} {s : CS} (h : CacheAt w col c b db s) (hc : 1 < c) (hnm : Norm w col) (ok : s.Ok) (hp : s.d.pending.length ≤ 1073690000) (n : Int) (hn : i64 n) :
    Calls Try.prog 11 #[ptr b, .int .i64 n] w fun e w' => Tells w col c b db (s.fetch n) e w' := by
  obtain ⟨rb, mb, ns, h⟩ := h
  exact get_any h hc hnm ok hp n hn (by have := bytes_bound (fetch_keeps ok n).ok; omega)
theorem pin_law {w : World} {col : Nat → Nat} {c b db : Nat} {s : CS} (h : CacheAt w col c b db s) (hc : 1 < c) (hnm : Norm w col) (ok : s.Ok) (hp : s.d.pending.length ≤ 1073690000) (n : Int) (hn : i64 n) :
    Calls Try.prog 12 #[ptr b, .int .i64 n] w fun e w' => Tells w col c b db (s.pin n) e w' := by
  obtain ⟨rb, mb, ns, h⟩ := h
  exact pin_any h hc hnm ok hp n hn (by have := bytes_bound (fetch_keeps ok n).ok; omega)
theorem unpin_law {w : World} {col : Nat → Nat} {c b db : Nat} {s : CS} (h : CacheAt w col c b db s) (hc : 1 < c) (hnm : Norm w col) (ok : s.Ok) (n : Int) (hn : i64 n) :
    Calls Try.prog 13 #[ptr b, .int .i64 n] w fun e w' => e = .returned (.int .i64 (s.unpin n).1) ∧ Now w col c b db (s.unpin n).2 w' (fun _ => True) := by
  obtain ⟨rb, mb, ns, h⟩ := h
  exact unpin_any h hc hnm ok n hn
theorem upto_law {w : World} {col : Nat → Nat} {c b db : Nat} {s : CS} (h : CacheAt w col c b db s) (hc : 1 < c) (hnm : Norm w col) (ok : s.Ok) (hp : s.d.pending.length ≤ 1073690000) (o : Int) :
    Calls Try.prog 18 #[ptr b, .int .u64 o] w fun e w' => e = .returned (.int .i64 0) ∧ Now w col c b db (s.upTo o) w' (fun _ => True) := by
  obtain ⟨rb, mb, ns, h⟩ := h
  refine (upTo_any h hc hnm ok (by omega) o).mono ?_
  rintro e w' ⟨rfl, col', h1, k1⟩
  exact ⟨rfl, col', ⟨_, _, _, h1⟩, k1, trivial⟩
theorem sync_law {w : World} {col : Nat → Nat} {c b db : Nat} {s : CS} (h : CacheAt w col c b db s) (hc : 1 < c) (hnm : Norm w col) (ok : s.Ok) (hp : s.d.pending.length ≤ 1073690000) :
    Calls Try.prog 19 #[ptr b] w fun e w' => e = .returned (.int .i64 0) ∧ Now w col c b db s.sync w' (fun _ => True) := by
  obtain ⟨rb, mb, ns, h⟩ := h
  exact csync_any h hc hnm ok hp
theorem drop_law {w : World} {col : Nat → Nat} {c b db : Nat} {s : CS} (h : CacheAt w col c b db s) (hc : 1 < c) (hnm : Norm w col) (ok : s.Ok) :
    Calls Try.prog 16 #[ptr b] w fun e w' => e = .returned (.int .i64 ((s.frames.length : Int) - s.drop.frames.length)) ∧ Now w col c b db s.drop w' (fun _ => True) := by
  obtain ⟨rb, mb, ns, h⟩ := h
  exact cdrop_any h hc hnm ok
theorem frames_law {w : World} {col : Nat → Nat} {c b db : Nat} {s : CS} (h : CacheAt w col c b db s) (hnm : Norm w col) (ok : s.Ok) :
    Calls Try.prog 10 #[ptr b] w fun e w' => (∃ a cap, e = .returned (.slice a s.frames.length cap) ∧ SlAt w' (Nil0 col) 43 4 (.slice a s.frames.length cap) s.frames.length (fcells s.frames)) ∧ Below w.heap.size w w' := by
  obtain ⟨rb, mb, ns, h⟩ := h
  refine (frames_any h ok).mono ?_
  rintro e w' ⟨⟨a, cap, rfl, hs⟩, k⟩
  exact ⟨⟨a, cap, rfl, fresh_sl hnm hs⟩, k⟩
/-! ### awake -/
def aL : List Int := rep 512 7
def aF : Frm := ⟨5, 0, true, 3, aL⟩
def a0 : CS := CS.new (DS.new 512 9) 2
theorem a_put : a0.put 5 aL 3 = (0, { a0 with frames := [aF] }) := by
  unfold CS.put
  rw [if_pos (by simp [a0, CS.new, DS.new, aL])]
  simp [CS.look, a0, CS.new, CS.made, CS.added, aF]
theorem a_get : ({ a0 with frames := [aF] } : CS).fetch 5 = (0, { a0 with frames := [aF], hits := 1 }) := by
  unfold CS.fetch CS.look CS.used CS.rest
  simp [aF, Frm.is, a0, CS.new]
  exact IntWalk.wrap64_in 1 (by omega)
theorem a_two : ({ a0 with frames := [aF], hits := 1 } : CS).upTo 2 = { a0 with frames := [aF], hits := 1 } := by
  unfold CS.upTo CS.due
  simp [aF, Frm.due]
theorem a_three : (({ a0 with frames := [aF], hits := 1 } : CS).upTo 3).d.pending.length = 1 := by
  have hdue : ({ a0 with frames := [aF], hits := 1 } : CS).due 3 = [aF] := by unfold CS.due; simp [aF, Frm.due]
  unfold CS.upTo
  rw [hdue]
  simp only [List.foldl_cons, List.foldl_nil, CS.write1]
  unfold DS.wrote
  rw [fit_iff.2 (by simp [aF, aL, a0, CS.new, DS.new])]
  simp [DS.write, DS.alive, a0, CS.new, DS.new, DS.tick]
end Go.Proofs.Ytjjgihaikcnjgaa
