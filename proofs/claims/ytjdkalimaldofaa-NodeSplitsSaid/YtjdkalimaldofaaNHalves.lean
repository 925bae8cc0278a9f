/-
  How many bytes the halves have.
-/
import Derived.Test.YtjdkalimaldofaaNHalf
namespace Go.Proofs.Ytjdkalimaldofaa
theorem ND.Half.left {n : ND} {L h : Nat} (a : n.Half L h) (hl : n.lens = true) : 2 * n.psumTo h ≤ n.psumTo n.keys.length + 260 := by
  obtain ⟨k, rfl⟩ : ∃ k, h = k + 1 := ⟨h - 1, by have := a.pos; omega⟩
  have e : n.psumTo (k + 1) = n.psumTo k + n.pentry k := rfl
  have e1 := ND.pentry_le hl k
  have e2 := n.psumTo_pos n.keys.length
  by_cases hk : k = 0
  · subst hk
    have : n.psumTo 0 = 0 := rfl
    omega
  · have := a.less k (by omega) (by omega)
    omega
theorem ND.Half.right {n : ND} {L h : Nat} (a : n.Half L h) (hl : n.lens = true) (hL : n.keys.length ≤ L + 2) (hL2 : L ≤ n.keys.length) : 2 * (n.psumTo n.keys.length - n.psumTo h) ≤ n.psumTo n.keys.length + 520 := by
  have e2 := n.psumTo_pos n.keys.length
  have e3 := n.psumTo_pos h
  rcases Nat.lt_or_ge h L with e | e
  · have := a.more e
    omega
  · obtain rfl : h = L := Nat.le_antisymm a.le e
    have s1 : n.psumTo (h + 1) = n.psumTo h + n.pentry h := rfl
    have s2 : n.psumTo (h + 2) = n.psumTo (h + 1) + n.pentry (h + 1) := rfl
    have p1 := ND.pentry_le hl h
    have p2 := ND.pentry_le hl (h + 1)
    have : n.keys.length = h ∨ n.keys.length = h + 1 ∨ n.keys.length = h + 2 := by omega
    rcases this with q | q | q <;> rw [q] at e2 ⊢ <;> omega
end Go.Proofs.Ytjdkalimaldofaa
