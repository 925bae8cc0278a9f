/-
  A table of open descriptors as it lies in memory: its cells, written out, and what reading and storing them gives.
-/
import Derived.Test.YtbkblfhhhhkeaaaHp
namespace Go.Proofs.Ytbkblfhhhhkeaaa
open Go.RowKit

/-- the cells of descriptors, two each -/
def slots (l : List (Int × Int)) : List Value := l.flatMap fun p => [.int .i64 p.1, .int .i64 p.2]
theorem slots_cons (p : Int × Int) (l : List (Int × Int)) : slots (p :: l) = .int .i64 p.1 :: .int .i64 p.2 :: slots l := rfl
theorem slots_len (l : List (Int × Int)) : (slots l).length = l.length * 2 := by
  induction l with
  | nil => rfl
  | cons p l ih => rw [slots_cons]; simp only [List.length_cons, ih]; omega
theorem slots_even (l : List (Int × Int)) : ∀ n, (slots l)[n * 2]? = (l[n]?).map fun p => Value.int .i64 p.1 := by
  induction l with
  | nil => intro n; simp [slots]
  | cons p l ih =>
    intro n
    rw [slots_cons]
    cases n with
    | zero => simp
    | succ n => rw [show (n + 1) * 2 = n * 2 + 1 + 1 by omega]; simp [ih]
theorem slots_odd (l : List (Int × Int)) : ∀ n, (slots l)[n * 2 + 1]? = (l[n]?).map fun p => Value.int .i64 p.2 := by
  induction l with
  | nil => intro n; simp [slots]
  | cons p l ih =>
    intro n
    rw [slots_cons]
    cases n with
    | zero => simp
    | succ n => rw [show (n + 1) * 2 + 1 = n * 2 + 1 + 1 + 1 by omega]; simp [ih]
theorem slots_set (l : List (Int × Int)) : ∀ n a b, ((slots l).set (n * 2) (.int .i64 a)).set (n * 2 + 1) (.int .i64 b) = slots (l.set n (a, b)) := by
  induction l with
  | nil => intro n a b; simp [slots]
  | cons p l ih =>
    intro n a b
    rw [slots_cons]
    cases n with
    | zero => simp [slots_cons]
    | succ n => rw [show (n + 1) * 2 = n * 2 + 1 + 1 by omega]; simp [ih, slots_cons]

/-- a table's block -/
def tabCells (l : List (Int × Int)) : Array Value := (.bool true :: slots l).toArray
structure TabAt (w : World) (b : Nat) (l : List (Int × Int)) : Prop where
  len : l.length = 64
  block : w.heap[b]? = some (.cells (tabCells l) 47 (0, 0))

def nth (l : List (Int × Int)) (n : Nat) : Int × Int := l.getD n (0, 0)
theorem nth_get {l : List (Int × Int)} {n : Nat} (h : n < l.length) : l[n]? = some (nth l n) := by
  simp [nth, List.getElem?_eq_getElem h]

section
variable {w : World} {b : Nat} {l : List (Int × Int)} (h : TabAt w b l)
include h
theorem TabAt.lt : b < w.heap.size := lt_of_block h.block
theorem TabAt.made : w.cell? ⟨b, 0, none⟩ = some (.bool true) := by rw [cell_of_block h.block]; simp [tabCells]
theorem TabAt.ino {n : Nat} (hn : n < 64) : w.cell? ⟨b, 1 + n * 2, none⟩ = some (.int .i64 (nth l n).1) := by
  have := slots_even l n
  rw [nth_get (by rw [h.len]; exact hn)] at this
  rw [cell_of_block h.block, Nat.add_comm]
  simpa [tabCells] using this
theorem TabAt.flag {n : Nat} (hn : n < 64) : w.cell? ⟨b, 1 + n * 2 + 1, none⟩ = some (.int .i64 (nth l n).2) := by
  have := slots_odd l n
  rw [nth_get (by rw [h.len]; exact hn)] at this
  rw [cell_of_block h.block, show 1 + n * 2 + 1 = n * 2 + 1 + 1 by omega]
  simpa [tabCells] using this
theorem TabAt.free (n : Nat) : w.frozen? ⟨b, n, none⟩ = false := free_of_block h.block n
theorem TabAt.alloc (o : Obj) : TabAt (w.alloc o) b l := ⟨h.len, block_old o h.block⟩
theorem TabAt.drew : TabAt w.drew b l := ⟨h.len, h.block⟩
theorem TabAt.below {w' : World} {B : Nat} (hb : Below B w w') (hB : b < B) : TabAt w' b l := ⟨h.len, below_keeps hb h.block hB⟩
theorem TabAt.store (n : Nat) (i f : Int) : TabAt ((w.setCell ⟨b, 1 + n * 2, none⟩ (.int .i64 i)).setCell ⟨b, 1 + n * 2 + 1, none⟩ (.int .i64 f)) b (l.set n (i, f)) := by
  refine ⟨by simp [h.len], ?_⟩
  rw [block_set (block_set h.block _ _)]
  congr 2
  have := slots_set l n i f
  rw [show 1 + n * 2 = n * 2 + 1 by omega, show n * 2 + 1 + 1 = (n * 2 + 1) + 1 by omega]
  simp only [tabCells, List.setIfInBounds_toArray, List.set_cons_succ]
  rw [this]
end

/-- all free -/
def noTab : List (Int × Int) := List.replicate 64 (0, 0)
theorem noTab_len : noTab.length = 64 := by simp [noTab]

/-- the first free one; -1: there is none -/
def freeIx (l : List (Int × Int)) : Int := match l.findIdx? (fun p => p.1 == 0) with | some n => (n : Int) | none => -1
theorem freeIx_some {l : List (Int × Int)} {n : Nat} (h : n < l.length) (h0 : (nth l n).1 = 0) (hj : ∀ j, j < n → (nth l j).1 ≠ 0) : freeIx l = n := by
  have : l.findIdx? (fun p => p.1 == 0) = some n := by
    rw [List.findIdx?_eq_some_iff_getElem]
    refine ⟨h, ?_, ?_⟩
    · have := nth_get h; rw [List.getElem?_eq_getElem h] at this; injection this with this; simp [this, h0]
    · intro j hjn
      have h1 : j < l.length := by omega
      have := nth_get h1; rw [List.getElem?_eq_getElem h1] at this; injection this with this
      have := hj j hjn
      simp_all
  simp [freeIx, this]
theorem freeIx_none {l : List (Int × Int)} (hj : ∀ j, j < l.length → (nth l j).1 ≠ 0) : freeIx l = -1 := by
  have : l.findIdx? (fun p => p.1 == 0) = none := by
    rw [List.findIdx?_eq_none_iff]
    intro p hp
    obtain ⟨j, h1, rfl⟩ := List.mem_iff_getElem.1 hp
    have := nth_get h1; rw [List.getElem?_eq_getElem h1] at this; injection this with this
    have := hj j h1
    simp_all
  simp [freeIx, this]
theorem freeIx_lt {l : List (Int × Int)} : freeIx l = -1 ∨ (0 ≤ freeIx l ∧ freeIx l < l.length ∧ (nth l (freeIx l).toNat).1 = 0 ∧ ∀ j, j < (freeIx l).toNat → (nth l j).1 ≠ 0) := by
  unfold freeIx
  cases h : l.findIdx? (fun p => p.1 == 0) with
  | none => exact Or.inl rfl
  | some n =>
    rw [List.findIdx?_eq_some_iff_getElem] at h
    obtain ⟨h1, h2, h3⟩ := h
    refine Or.inr ⟨by simp, by simp; omega, ?_, ?_⟩
    · have := nth_get h1; rw [List.getElem?_eq_getElem h1] at this; injection this with this
      simp only [Int.toNat_natCast, ← this]; simpa using h2
    · intro j hj
      simp only [Int.toNat_natCast] at hj
      have h4 : j < l.length := by omega
      have := nth_get h4; rw [List.getElem?_eq_getElem h4] at this; injection this with this
      have := h3 j hj
      simp_all
end Go.Proofs.Ytbkblfhhhhkeaaa
