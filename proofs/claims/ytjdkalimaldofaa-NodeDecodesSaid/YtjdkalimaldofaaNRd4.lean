/-
  read at any kind; what Decode reads of a string of bytes; its bounds.
-/
import Derived.Test.YtjdkalimaldofaaNReadI
import Derived.Test.YtjdkalimaldofaaNEncode
namespace Go.Proofs.Ytjdkalimaldofaa
open Go.RowKit
set_option linter.unusedSimpArgs false
set_option linter.unusedVariables false
/-- what read gathers at a kind -/
def rsAny (kb : Int) (s : ByteArray) (e : Int) (n : Nat) : RSt := if kb = 1 then rsLeaf s e n else rsInner s e n
def rsNode (kb : Int) (s : ByteArray) (e : Int) (n : Nat) : ND := ⟨decide (kb = 1), (rsAny kb s e n).keys, (rsAny kb s e n).values, (rsAny kb s e n).kids⟩
theorem read_any (w : World) (rb : Nat) (s : ByteArray) (e : Int) (n : Nat) (kb : Int) (h : Rdr w rb s e) (hs : s.size ≤ 8192) (hn : n ≤ 65535) :
    Calls Try.prog 57 #[.pointer (some ⟨rb, 0, none⟩), .int .u8 kb, .int .i64 n] w fun x w' => (∃ v, x = .returned v ∧ NodeAt w' (fun j => w.heap.size ≤ j) v (rsNode kb s e n) ∧ Rdr w' rb (rsAny kb s e n).r.s (rsAny kb s e n).r.e) ∧ Chg (fun j => j = rb) w w' := by
  unfold rsNode rsAny
  by_cases hk : kb = 1
  · subst hk
    exact read_leaf w rb s e n h hs hn
  · rw [if_neg hk, decide_eq_false hk]
    exact read_inner w rb s e n kb hk h hs hn
theorem rawT_le (s : ByteArray) (e : Int) (k : Nat) : (rawT s e k).size ≤ s.size := by
  unfold rawT
  split
  · rw [ByteArray.size_extract]; omega
  · exact Nat.zero_le _
theorem RS.txt_le (r : RS) (k : Nat) : (r.txt k).size ≤ r.s.size := rawT_le _ _ _
theorem RSt.leaf_lens (t : RSt) (b : Nat) (hb : t.r.s.size ≤ b) (hk : ∀ x ∈ t.keys, x.size ≤ b) (hv : ∀ x ∈ t.values, x.size ≤ b) : ∀ k, (∀ x ∈ (RSt.run RSt.leafStep k t).keys, x.size ≤ b) ∧ (∀ x ∈ (RSt.run RSt.leafStep k t).values, x.size ≤ b)
  | 0 => ⟨hk, hv⟩
  | k + 1 => by
    have h := RSt.leaf_lens t b hb hk hv k
    have hr := (RSt.leaf_run t k).1
    by_cases he : (RSt.run RSt.leafStep k t).r.e = 0
    · rw [RSt.run_step he]
      generalize RSt.run RSt.leafStep k t = u at *
      refine ⟨fun x hx => ?_, fun x hx => ?_⟩
      · rcases List.mem_append.1 hx with q | q
        · exact h.1 x q
        · rw [List.mem_singleton.1 q]
          exact Nat.le_trans (RS.txt_le _ _) (Nat.le_trans (RS.raw_le _ _) (Nat.le_trans (RS.raw_le _ _) (Nat.le_trans hr hb)))
      · rcases List.mem_append.1 hx with q | q
        · exact h.2 x q
        · rw [List.mem_singleton.1 q]
          exact Nat.le_trans (RS.txt_le _ _) (Nat.le_trans (RS.raw_le _ _) (Nat.le_trans (RS.raw_le _ _) (Nat.le_trans (RS.raw_le _ _) (Nat.le_trans hr hb))))
    · rw [RSt.run, if_neg he]
      exact h
theorem RSt.inner_lens (t : RSt) (b : Nat) (hb : t.r.s.size ≤ b) (hk : ∀ x ∈ t.keys, x.size ≤ b) (hv : ∀ x ∈ t.values, x.size ≤ b) : ∀ k, (∀ x ∈ (RSt.run RSt.innerStep k t).keys, x.size ≤ b) ∧ (∀ x ∈ (RSt.run RSt.innerStep k t).values, x.size ≤ b)
  | 0 => ⟨hk, hv⟩
  | k + 1 => by
    have h := RSt.inner_lens t b hb hk hv k
    have hr := (RSt.inner_run t k).1
    by_cases he : (RSt.run RSt.innerStep k t).r.e = 0
    · rw [RSt.run_step he]
      generalize RSt.run RSt.innerStep k t = u at *
      refine ⟨fun x hx => ?_, h.2⟩
      rcases List.mem_append.1 hx with q | q
      · exact h.1 x q
      · rw [List.mem_singleton.1 q]
        exact Nat.le_trans (RS.txt_le _ _) (Nat.le_trans (RS.raw_le _ _) (Nat.le_trans hr hb))
    · rw [RSt.run, if_neg he]
      exact h
theorem rsNode_small (kb : Int) (s : ByteArray) (e : Int) (n : Nat) (hn : n ≤ 65535) : (rsNode kb s e n).Small := by
  unfold rsNode rsAny
  by_cases hk : kb = 1
  · rw [if_pos hk]
    have h := RSt.leaf_run ⟨[], [], [], ⟨s, e⟩⟩ n
    refine ⟨Nat.le_trans h.2.1 ?_, Nat.le_trans h.2.2.1 ?_, ?_⟩
    · simp only [List.length_nil]; omega
    · simp only [List.length_nil]; omega
    · show (RSt.run RSt.leafStep n ⟨[], [], [], ⟨s, e⟩⟩).kids.length ≤ _
      rw [h.2.2.2]
      simp only [List.length_nil]; omega
  · rw [if_neg hk]
    have h := RSt.inner_run ⟨[], [], [rdNum s e 4], ⟨rawS s e 4, rawE s e 4⟩⟩ n
    refine ⟨Nat.le_trans h.2.1 ?_, ?_, Nat.le_trans h.2.2.2 ?_⟩
    · simp only [List.length_nil]; omega
    · show (RSt.run RSt.innerStep n ⟨[], [], [rdNum s e 4], ⟨rawS s e 4, rawE s e 4⟩⟩).values.length ≤ _
      rw [h.2.2.1]
      simp only [List.length_nil]; omega
    · simp only [List.length_cons, List.length_nil]; omega
theorem rsNode_lens (kb : Int) (s : ByteArray) (e : Int) (n : Nat) (hs : s.size ≤ 8192) : (rsNode kb s e n).Lens := by
  unfold rsNode rsAny
  by_cases hk : kb = 1
  · rw [if_pos hk]
    have h := RSt.leaf_lens ⟨[], [], [], ⟨s, e⟩⟩ 8192 hs (by simp) (by simp) n
    exact ⟨fun x hx => Nat.le_trans (h.1 x hx) (by omega), fun x hx => Nat.le_trans (h.2 x hx) (by omega)⟩
  · rw [if_neg hk]
    have h := RSt.inner_lens ⟨[], [], [rdNum s e 4], ⟨rawS s e 4, rawE s e 4⟩⟩ 8192 (Nat.le_trans (rawS_le _ _ _) hs) (by simp) (by simp) n
    exact ⟨fun x hx => Nat.le_trans (h.1 x hx) (by omega), fun x hx => Nat.le_trans (h.2 x hx) (by omega)⟩
/-- Decode's reader, mark by mark -/
def pr1 (S : ByteArray) : RS := (⟨S, 0⟩ : RS).raw 4
def pKind (S : ByteArray) : Int := (pr1 S).num 1
def pr3 (S : ByteArray) : RS := ((pr1 S).raw 1).raw 1
def pKeys (S : ByteArray) : Int := (pr3 S).num 2
def pr5 (S : ByteArray) : RS := ((pr3 S).raw 2).raw 8
def pEnd (S : ByteArray) : RSt := rsAny (pKind S) (pr5 S).s (pr5 S).e (pKeys S).toNat
def pNode (S : ByteArray) : ND := rsNode (pKind S) (pr5 S).s (pr5 S).e (pKeys S).toNat
theorem pKeys_in (S : ByteArray) : 0 ≤ pKeys S ∧ pKeys S ≤ 65535 := by
  have h1 := rdNum_in (pr3 S).s (pr3 S).e 2
  have h2 : (256 : Int) ^ 2 = 65536 := by decide
  unfold pKeys RS.num
  omega
theorem pKind_in (S : ByteArray) : 0 ≤ pKind S ∧ pKind S ≤ 255 := RS.num_in1 _
theorem pr1_le (S : ByteArray) : (pr1 S).s.size ≤ S.size := RS.raw_le ⟨S, 0⟩ 4
theorem pr3_le (S : ByteArray) : (pr3 S).s.size ≤ S.size := Nat.le_trans (RS.raw_le _ _) (Nat.le_trans (RS.raw_le _ _) (pr1_le S))
theorem pr5_le (S : ByteArray) : (pr5 S).s.size ≤ S.size := Nat.le_trans (RS.raw_le _ _) (Nat.le_trans (RS.raw_le _ _) (pr3_le S))
theorem pNode_small (S : ByteArray) : (pNode S).Small := rsNode_small _ _ _ _ (by have := pKeys_in S; omega)
theorem pNode_lens (S : ByteArray) (hs : S.size ≤ 8192) : (pNode S).Lens := rsNode_lens _ _ _ _ (Nat.le_trans (pr5_le S) hs)
/-- the bytes are a node's, exactly -/
def pOk (size : Nat) (xs : List Int) : Prop := (pEnd (strOfNums xs)).r.e = 0 ∧ ((pNode (strOfNums xs)).check = 0 ∧ sizeOk size = true ∧ (pNode (strOfNums xs)).psize ≤ size) ∧ (pNode (strOfNums xs)).out size = xs
end Go.Proofs.Ytjdkalimaldofaa
