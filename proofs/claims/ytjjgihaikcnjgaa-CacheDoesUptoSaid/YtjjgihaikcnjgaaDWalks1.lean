/-
  The walks of package disk, the small ones.
-/
import Derived.Test.YtjjgihaikcnjgaaDRep
import Derived.Deep.DeepMust
import Derived.BigQuiet
import Derived.WalkSpells
import Derived.WalkLawsBesides
namespace Go.Proofs.Ytjjgihaikcnjgaa
open Go.RowKit
set_option linter.unusedSimpArgs false
set_option linter.unusedVariables false
set_option maxRecDepth 100000

def power2 (n : Int) : Bool := n == 512 || n == 1024 || n == 2048 || n == 4096
def pow2B (n : Int) : Bool := decide (512 ≤ n) && (decide (n ≤ 4096) && (bits BinOp.and IntKind.i64 n (n - 1) == 0))
def fitsD (size count : Int) : Bool := pow2B size && (decide (1 ≤ count) && decide (count ≤ 4096))

theorem Chg.of_set {own : Nat → Prop} (w : World) (b i : Nat) (v : Value) (h : own b) : Chg own w (w.setCell ⟨b, i, none⟩ v) := (Chg.refl own w).setCell _ _ (fun _ => h)

section
variable {w : World} {col : Nat → Nat} {c b : Nat} {s : DS} {pa : Option Addr} {pcap : Nat} {qa : Option Addr} {qn qcap : Nat} {qs : List Value}

theorem made_yes (h : DiskIn w 86 col c b s pa pcap qa qn qcap qs) (hs : 0 < s.size) :
    Calls Try.prog 41 #[.pointer (some ⟨b, 0, none⟩)] w fun e w' => e = .returned (.bool true) ∧ w = w' := by
  have h0 := h.size
  go_enter Try.func41, Try.ntmps41
  go_wp2
  go_ret
  exact ⟨rfl, rfl⟩
theorem size_any (h : DiskIn w 86 col c b s pa pcap qa qn qcap qs) (hs : 0 < s.size) :
    Calls Try.prog 36 #[.pointer (some ⟨b, 0, none⟩)] w fun e w' => e = .returned (.int .i64 s.size) ∧ w = w' := by
  have h0 := h.size
  go_enter Try.func36, Try.ntmps36
  go_wp2
  go_ret
  exact ⟨rfl, rfl⟩
theorem count_any (h : DiskIn w 86 col c b s pa pcap qa qn qcap qs) (hs : 0 < s.size) :
    Calls Try.prog 35 #[.pointer (some ⟨b, 0, none⟩)] w fun e w' => e = .returned (.int .i64 s.count) ∧ w = w' := by
  have h0 := h.size
  have h1 := h.count
  go_enter Try.func35, Try.ntmps35
  go_wp2
  go_ret
  exact ⟨rfl, rfl⟩

def DS.off (s : DS) : Bool := s.stops && (s.left == 0)
def DS.stop (s : DS) (n : Int) : DS := { s with stops := decide (0 ≤ n), left := if n < 0 then 0 else n }
/-- what is done, and what is left of the power -/
def DS.alive (s : DS) : Bool := !s.stops || !(s.left == 0)
def DS.tick (s : DS) : DS := { s with left := if s.stops && !(s.left == 0) then s.left - 1 else s.left }
theorem goes_any (h : DiskIn w 86 col c b s pa pcap qa qn qcap qs) (hc : 1 < c) (hl : 0 ≤ s.left ∧ s.left ≤ 9223372036854775807) :
    Calls Try.prog 73 #[.pointer (some ⟨b, 0, none⟩)] w fun e w' => e = .returned (.bool s.alive) ∧ DiskIn w' 86 col c b s.tick pa pcap qa qn qcap qs ∧ Chg (inC col c) w w' := by
  have h1 := h.stops
  have h2 := h.left
  have f1 := h.free 8
  obtain ⟨hl0, hl1⟩ := hl
  have hin : inC col c b := by unfold inC; have := h.color; omega
  cases hst : s.stops with
  | false =>
    rw [hst] at h1
    have e : s.tick = s := by cases s; simp_all [DS.tick]
    have e2 : s.alive = true := by simp [DS.alive, hst]
    rw [e, e2]
    clear hst e e2
    go_enter Try.func73, Try.ntmps73
    go_wp2
    go_ret
    exact ⟨rfl, h, Chg.refl _ _⟩
  | true =>
    rw [hst] at h1
    by_cases hz : s.left = 0
    · have hz' : (s.left == 0) = true := by simp [hz]
      have e : s.tick = s := by cases s; simp_all [DS.tick]
      have e2 : s.alive = false := by simp [DS.alive, hz', hst]
      rw [e, e2]
      clear hst e e2 hz
      go_enter Try.func73, Try.ntmps73
      go_wp2
      go_ret
      exact ⟨rfl, h, Chg.refl _ _⟩
    · have hz' : (s.left == 0) = false := by simp [hz]
      have hp : 1 ≤ s.left := by omega
      have e : s.tick = { s with left := s.left - 1 } := by simp [DS.tick, hz', hst]
      have e2 : s.alive = true := by simp [DS.alive, hz', hst]
      rw [e, e2]
      clear hst e e2 hz
      go_enter Try.func73, Try.ntmps73
      go_wp2
      go_ret
      exact ⟨rfl, h.store hc _ 8 _ rfl rfl rfl, Chg.of_set _ _ _ _ hin⟩

end

/-! ### Clone of bytes -/
theorem info5 : (Try.prog.info? 5).map (fun i => (i.zero, i.size, i.bytes)) = some (some (.int .u8 0), 1, 1) := by kernel_rfl
/-- a clone: nil stays nil -/
def Cloned (w : World) (E : TypeId) (size : Nat) (n : Nat) (xs : List Value) (e : Ending) (w' : World) : Prop :=
  ∃ a cap, e = .returned (.slice a n cap) ∧ SlAt w' (fun k => w.heap.size ≤ k) E size (.slice a n cap) n xs
theorem clone_any (w : World) (own : Nat → Prop) (v : Value) (l : List Int) (h : BytesAt w own v l) (hl : l.length ≤ 1073741824) :
    Calls Try.prog 34 #[v] w fun e w' => Cloned w 5 1 l.length (bcells l) e w' ∧ Below w.heap.size w w' := by
  obtain ⟨i0, hi, hz0, hz1, hz2⟩ := info_parts info5
  obtain ⟨a, cap, rfl⟩ := h.shape
  have hk := fun (w : World) a n c => Lib.run_eql_slice_nil (P := Try.prog) w 34 5 a n c 0 0 Try.underlying34
  cases a with
  | none =>
    have hn : l = [] := by
      obtain ⟨_, a, cap', he, _, _, h3⟩ := h
      have e1 := (Value.slice.inj he).1
      rcases Nat.eq_zero_or_pos l.length with h | h
      · exact List.eq_nil_of_length_eq_zero h
      · obtain ⟨g, off, e2, _⟩ := h3 h; rw [e2] at e1; simp at e1
    subst hn
    go_enter Try.func34, Try.ntmps34
    go_wp2
    go_ret
    exact ⟨⟨none, 0, rfl, SlAt.nil _ _ _ _ _⟩, Below.refl _ _⟩
  | some a =>
    go_enter Try.func34, Try.ntmps34
    go_wp2_with (at_builtin; go_must (refine wpList_append_sl rfl _ _ 34 rfl 5 i0 (.int .u8 0) 1 1 Try.underlying34 hi hz0 hz1 hz2 rfl (fun k => w.heap.size ≤ k) _ 0 [] rfl (SlAt.nil _ _ _ _ _) own _ _ _ rfl (h.below ((Below.refl _ _).alloc (Nat.le_refl _) _)) (bcells_one _) ?_ ?_ ?_); (unfold maxLen; omega); omega; rintro v' w' hs hc)
    go_ret
    obtain ⟨a', cap', rfl⟩ := hs.shape
    simp only [Nat.zero_add, List.nil_append] at hs ⊢
    exact ⟨⟨a', cap', rfl, hs.mono (fun k hk e => by simp at e; omega)⟩, (((Below.refl _ _).alloc (Nat.le_refl _) _).trans (hc.below (by simp) (fun i hi e => by omega)))⟩

/-! ### a disk of zeros -/
theorem pow2_small : ∀ n : Nat, n < 4097 → (decide (512 ≤ (n : Int)) && (bits BinOp.and IntKind.i64 (n : Int) ((n : Int) - 1) == 0)) = power2 (n : Int) := by
  have h : (List.range 4097).all (fun n => (decide (512 ≤ (n : Int)) && (bits BinOp.and IntKind.i64 (n : Int) ((n : Int) - 1) == 0)) == power2 (n : Int)) = true := by decide +kernel
  intro n hn
  have := List.all_eq_true.1 h n (List.mem_range.2 hn)
  simpa using this
theorem pow2B_eq (n : Int) : pow2B n = power2 n := by
  unfold pow2B
  by_cases h : 512 ≤ n ∧ n ≤ 4096
  · obtain ⟨m, rfl⟩ := Int.eq_ofNat_of_zero_le (show 0 ≤ n by omega)
    rw [← pow2_small m (by omega)]
    simp [h.2]
  · have : power2 n = false := by
      simp only [power2, Bool.or_eq_false_iff, beq_eq_false_iff_ne]
      refine ⟨⟨⟨?_, ?_⟩, ?_⟩, ?_⟩ <;> omega
    rw [this]
    simp
    omega
theorem fits_any (w : World) (size count : Int) :
    Calls Try.prog 65 #[.int .i64 size, .int .i64 count] w fun e w' => e = .returned (.bool (fitsD size count)) ∧ w = w' := by
  go_enter Try.func65, Try.ntmps65
  go_wp2
  all_goals
    go_ret
    refine ⟨congrArg (fun x => Ending.returned (.bool x)) ?_, rfl⟩
    have := (rfl : fitsD size count = _)
    simp [fitsD, pow2B, *]
  all_goals omega
end Go.Proofs.Ytjjgihaikcnjgaa
