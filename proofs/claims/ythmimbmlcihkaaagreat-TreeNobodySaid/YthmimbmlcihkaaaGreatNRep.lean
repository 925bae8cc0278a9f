/-
  Nodes as they lie in memory, and as plain data; sameTexts and Same of equals.
-/
import Derived.Test.YthmimbmlcihkaaaGreatSub
import Derived.Deep.RegionHeld3
namespace Go.Proofs.YthmimbmlcihkaaaGreat
open Go.RowKit
set_option linter.unusedSimpArgs false
set_option linter.unusedVariables false
set_option maxRecDepth 100000

theorem SlAt.shape {w : World} {own : Nat → Prop} {e : TypeId} {size : Nat} {v : Value} {n : Nat} {xs : List Value} (h : SlAt w own e size v n xs) : ∃ a cap, v = .slice a n cap := by
  obtain ⟨h1, h2⟩ := h
  rcases h2 with ⟨a, rfl, rfl⟩ | ⟨g, off, cap, cur, rfl, _⟩
  · exact ⟨a, 0, rfl⟩
  · exact ⟨_, cap, rfl⟩
/-- from a to b: only new blocks -/
abbrev Bl (a b : World) : Prop := Below a.heap.size a b
theorem Bl.refl (a : World) : Bl a a := Below.refl _ _
theorem Bl.trans {a b c : World} (h : Bl a b) (k : Bl b c) : Bl a c := Below.trans h (Below.mono k h.size)
theorem Bl.alloc {a b : World} (h : Bl a b) (o : Obj) : Bl a (b.alloc o) := Below.alloc h h.size o
theorem Bl.drew {a b : World} (h : Bl a b) : Bl a b.drew := Below.drew h

/-- a node -/
structure ND where
  leaf : Bool
  keys : List ByteArray
  values : List ByteArray
  kids : List Int
def tcells (l : List ByteArray) : List Value := l.map Value.string
def icells (l : List Int) : List Value := l.map (Value.int .i64)
theorem tcells_get {l : List ByteArray} {k : Nat} (h : k < l.length) : (tcells l)[k]? = some (.string l[k]) := by simp [tcells, h]
theorem icells_get {l : List Int} {k : Nat} (h : k < l.length) : (icells l)[k]? = some (.int .i64 l[k]) := by simp [icells, h]
theorem tcells_one (l : List ByteArray) : ∀ u ∈ tcells l, u.oneCell' = true := by
  intro u hu
  simp only [tcells, List.mem_map] at hu
  obtain ⟨x, _, rfl⟩ := hu
  rfl
theorem icells_one (l : List Int) : ∀ u ∈ icells l, u.oneCell' = true := by
  intro u hu
  simp only [icells, List.mem_map] at hu
  obtain ⟨x, _, rfl⟩ := hu
  rfl
def TxtAt (w : World) (own : Nat → Prop) (v : Value) (l : List ByteArray) : Prop := RdAt w own 1 v l.length (tcells l)
def IntsAt (w : World) (own : Nat → Prop) (v : Value) (l : List Int) : Prop := RdAt w own 1 v l.length (icells l)
/-- a node's value -/
def nodeV (n : ND) (ka : Option Addr) (kc : Nat) (va : Option Addr) (vc : Nat) (ia : Option Addr) (ic : Nat) : Value :=
  .agg #[.bool n.leaf, .slice ka n.keys.length kc, .slice va n.values.length vc, .slice ia n.kids.length ic]
structure NodeIn (w : World) (own : Nat → Prop) (n : ND) (ka : Option Addr) (kc : Nat) (va : Option Addr) (vc : Nat) (ia : Option Addr) (ic : Nat) : Prop where
  keys : TxtAt w own (.slice ka n.keys.length kc) n.keys
  values : TxtAt w own (.slice va n.values.length vc) n.values
  kids : IntsAt w own (.slice ia n.kids.length ic) n.kids
def NodeAt (w : World) (own : Nat → Prop) (v : Value) (n : ND) : Prop := ∃ ka kc va vc ia ic, v = nodeV n ka kc va vc ia ic ∧ NodeIn w own n ka kc va vc ia ic
theorem NodeIn.below {w w' : World} {own : Nat → Prop} {n : ND} {ka : Option Addr} {kc : Nat} {va : Option Addr} {vc : Nat} {ia : Option Addr} {ic : Nat} (h : NodeIn w own n ka kc va vc ia ic) (k : Bl w w') : NodeIn w' own n ka kc va vc ia ic :=
  ⟨RdAt.below h.keys k, RdAt.below h.values k, RdAt.below h.kids k⟩
theorem NodeAt.below {w w' : World} {own : Nat → Prop} {v : Value} {n : ND} (h : NodeAt w own v n) (k : Bl w w') : NodeAt w' own v n := by
  obtain ⟨ka, kc, va, vc, ia, ic, e, h⟩ := h
  exact ⟨ka, kc, va, vc, ia, ic, e, h.below k⟩
/-- a node's box -/
def nbox (n : ND) (ka : Option Addr) (kc : Nat) (va : Option Addr) (vc : Nat) (ia : Option Addr) (ic : Nat) : Array Value :=
  #[.bool n.leaf, .slice ka n.keys.length kc, .slice va n.values.length vc, .slice ia n.kids.length ic]

end Go.Proofs.YthmimbmlcihkaaaGreat
