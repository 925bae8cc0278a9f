/-
  Encode on both sides, whichever the flag.
-/
import Derived.Test.YtjdkalimaldofaaNEnc
import Derived.Test.YtjdkalimaldofaaNREnc
import Derived.Test.YtjdkalimaldofaaNEncErr
namespace Go.Proofs.Ytjdkalimaldofaa
open Go.RowKit
theorem encode_ok (w : World) (own : Nat → Prop) (v : Value) (n : ND) (size : Nat) (hv : NodeAt w own v n) (sm : n.Small) (ln : n.Lens) (hc : n.check = 0) (hs : sizeOk size = true) (hp : n.psize ≤ size) :
    Calls Try.prog 16 #[.int .i64 size, v] w fun e w' => (∃ x, e = .returned (.tuple #[x, .int .i64 0]) ∧ RdAt w' (fun k => w.heap.size ≤ k) 1 x size (bcells (n.out size))) ∧ Bl w w' := by
  cases hf : n.leaf
  · exact encode_ok_false w own v n size hv sm ln hc hf hs hp
  · exact encode_ok_true w own v n size hv sm ln hc hf hs hp
theorem rencode_ok (w : World) (own : Nat → Prop) (v : Value) (n : ND) (size : Nat) (hv : NodeAt w own v n) (sm : n.Small) (ln : n.Lens) (hc : n.check = 0) (hs : sizeOk size = true) (hp : n.psize ≤ size) :
    Calls Try.prog 17 #[.int .i64 size, v] w fun e w' => (∃ x, e = .returned (.tuple #[x, .int .i64 0]) ∧ RdAt w' (fun k => w.heap.size ≤ k) 1 x size (bcells (n.out size))) ∧ Bl w w' := by
  cases hf : n.leaf
  · exact rencode_ok_false w own v n size hv sm ln hc hf hs hp
  · exact rencode_ok_true w own v n size hv sm ln hc hf hs hp
theorem encErr_ne (n : ND) (size : Int) : encErr n size ≠ 0 := by
  unfold encErr
  split
  · split <;> decide
  · assumption
theorem encOk_nat {size : Int} (h : sizeOk size = true) : ∃ k : Nat, size = (k : Int) := by
  refine ⟨size.toNat, ?_⟩
  simp only [sizeOk, Bool.or_eq_true, decide_eq_true_eq] at h
  omega
end Go.Proofs.Ytjdkalimaldofaa
