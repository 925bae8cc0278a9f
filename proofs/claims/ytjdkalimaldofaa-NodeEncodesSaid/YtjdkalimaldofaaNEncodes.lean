/-
  NodeEncodes: the walk, whole, and as the row asks for it.
-/
import Derived.Test.YtjdkalimaldofaaNLaw2
import Derived.Test.YtjdkalimaldofaaNDec
import Derived.Test.YtjdkalimaldofaaNRd5
import Derived.Test.YtjdkalimaldofaaNOpen
namespace Go.Proofs.Ytjdkalimaldofaa
open Go.RowKit
theorem keys_fit {n : ND} {size : Nat} (hs : sizeOk size = true) (hp : n.psize ≤ size) : n.keys.length ≤ 65535 := by
  have h1 := n.psumTo_ge n.keys.length
  have h2 : n.psumTo n.keys.length + 16 ≤ n.psize := by
    unfold ND.psize
    split <;> omega
  have h3 : size ≤ 4096 := by
    simp only [sizeOk, Bool.or_eq_true, decide_eq_true_eq] at hs
    omega
  omega
theorem out_size {n : ND} {size : Nat} (hck : n.check = 0) (hp : n.psize ≤ size) : (n.out size).length = size := by
  obtain ⟨hl, hsh, -⟩ := ND.check_zero hck
  refine ND.out_len ?_
  have := ND.entTo_fit (ND.shape_form hsh) (Nat.le_refl n.keys.length)
  rw [ND.enc_len]
  unfold ND.body
  omega
theorem decode_out (w : World) (own : Nat → Prop) (x : Value) (n : ND) (size : Nat) (hck : n.check = 0) (hs : sizeOk size = true) (hp : n.psize ≤ size) (hx : RdAt w own 1 x size (bcells (n.out size))) :
    Calls Try.prog 21 #[.int .i64 size, x] w fun e w' => (∃ u, e = .returned (.tuple #[u, .int .i64 0]) ∧ NodeAt w' (fun k => w.heap.size ≤ k) u n) ∧ Bl w w' := by
  have hl := out_size hck hp
  have hr := pNode_out hck size (keys_fit hs hp)
  have hok : pOk size (n.out size) := ⟨hr.2, by rw [hr.1]; exact ⟨hck, hs, hp⟩, by rw [hr.1]⟩
  refine (decode_any w own x (n.out size) size (by rw [hl]; exact hx) hs hl).mono ?_
  rintro e w' ⟨⟨u, c, rfl, q⟩, k⟩
  rcases q with ⟨_, rfl, q⟩ | ⟨q, _⟩
  · rw [hr.1] at q
    exact ⟨⟨u, rfl, q⟩, k⟩
  · exact absurd hok q
theorem encodes_any (w : World) (own : Nat → Prop) (v : Value) (n : ND) (size : Int) (hs0 : -9223372036854775808 ≤ size) (hs1 : size ≤ 9223372036854775807) (hv : NodeAt w own v n) (sm : n.Small) (ln : n.Lens) :
    Calls Try.prog 4 #[.int .i64 size, v] w fun e w' => e = .returned (.bool true) ∧ Bl w w' := by
  by_cases h : n.check = 0 ∧ sizeOk size = true ∧ n.psize ≤ size
  · obtain ⟨k, rfl⟩ := encOk_nat h.2.1
    exact encodes_ok w own v n k hv sm ln h.1 h.2.1 h.2.2 (fun w own x hx => decode_out w own x n k h.1 h.2.1 h.2.2 hx)
  · exact encodes_err w own v n size hs0 hs1 hv sm ln h
theorem encodes_gen (W : World) (size : Int) (hw : (Lit.int .i64 size).wf = true) (v : Value) (n : ND) (h : NodeAt W (fun k => k < W.heap.size) v n ∧ n.Small ∧ n.Lens ∧ ∀ k ∈ n.kids, -9223372036854775808 ≤ k ∧ k ≤ 9223372036854775807) :
    Calls Try.prog 4 #[.int .i64 size, v] W fun e w' => e = .returned (.bool true) ∧ Below W.heap.size W w' := by
  have hs : -9223372036854775808 ≤ size ∧ size ≤ 9223372036854775807 := by
    rw [Lit.wf, Bool.and_eq_true, decide_eq_true_eq, decide_eq_true_eq] at hw
    exact hw
  exact encodes_any W _ v n size hs.1 hs.2 h.1 h.2.1 h.2.2.1
end Go.Proofs.Ytjdkalimaldofaa
