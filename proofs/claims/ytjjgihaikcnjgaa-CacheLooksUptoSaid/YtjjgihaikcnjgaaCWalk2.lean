/-
  oldest, Counts, Frames, New, add of package cache.
-/
import Derived.Test.YtjjgihaikcnjgaaCWalk1
namespace Go.Proofs.Ytjjgihaikcnjgaa
open Go.RowKit Go.Maps
set_option linter.unusedSimpArgs false
set_option linter.unusedVariables false
set_option maxRecDepth 100000

/-- how many frames there are from a block on -/
def toGo : List (Nat × Frm) → Nat → Nat
  | [], _ => 0
  | x :: ns, k => if x.1 = k then ns.length + 1 else toGo ns k
def qb (q : Value) : Nat := match q with | .pointer (some a) => a.block | _ => 0
theorem toGo_none : ∀ {ns : List (Nat × Frm)} {k : Nat}, k ∉ blks ns → toGo ns k = 0
  | [], _, _ => rfl
  | x :: ns, k, h => by
    simp only [blks, List.map_cons, List.mem_cons, not_or] at h
    unfold toGo
    rw [if_neg (fun e => h.1 e.symm), toGo_none h.2]
theorem toGo_at : ∀ {l1 l2 : List (Nat × Frm)} {rb : Nat}, (blks ((rb, f0) :: (l1 ++ l2))).Nodup → toGo (l1 ++ l2) (hd l2 rb) = l2.length
  | [], [], rb, h => rfl
  | [], x :: l2, rb, h => by show (if x.1 = x.1 then l2.length + 1 else _) = _; rw [if_pos rfl]; rfl
  | y :: l1, l2, rb, h => by
    have h1 := List.nodup_cons.1 h
    have h2 := List.nodup_cons.1 h1.2
    have hne : y.1 ≠ hd l2 rb := fun e => by
      cases l2 with
      | nil => exact h1.1 (by have e : y.1 = rb := e; rw [← e]; simp [blks])
      | cons x l2 => exact h2.1 (by have e : y.1 = x.1 := e; show y.1 ∈ _; rw [e]; simp [blks])
    show (if y.1 = hd l2 rb then _ else toGo (l1 ++ l2) (hd l2 rb)) = _
    rw [if_neg hne]
    refine toGo_at (l1 := l1) (l2 := l2) (rb := rb) (List.nodup_cons.2 ⟨fun e => h1.1 (List.mem_cons_of_mem _ e), h2.2⟩)
section
variable {w : World} {col : Nat → Nat} {c b db rb mb : Nat} {s : CS} {ns : List (Nat × Frm)}
theorem hd_ne {w : World} {col : Nat → Nat} {rb : Nat} {l1 l2 : List (Nat × Frm)} {x : Nat × Frm} (h : RingAt w col rb (l1 ++ x :: l2)) : x.1 ≠ rb := fun e => by
  have := (List.nodup_cons.1 h.nodup).1
  exact this (by rw [← e]; simp [blks])
/-- a frame's cells in the ring -/
theorem ring_cells {w : World} {col : Nat → Nat} {rb : Nat} {l1 l2 : List (Nat × Frm)} {x : Nat × Frm} (h : RingAt w col rb (l1 ++ x :: l2)) :
    ∃ p v, w.heap[x.1]? = some (.cells (nodeC p (hd l2 rb) x.2 v) 78 (0, 0)) ∧ BytesAt w (fun k => col k = 1) v x.2.bytes := by
  obtain ⟨v, hv, hby⟩ := (Seg.mid (a := (rb, f0) :: l1) h.seg)
  exact ⟨_, v, hv, hby⟩
theorem ring_head {w : World} {col : Nat → Nat} {rb : Nat} {ns : List (Nat × Frm)} (h : RingAt w col rb ns) : ∃ v, w.heap[rb]? = some (.cells (nodeC (lst rb ns) (hd ns rb) f0 v) 78 (0, 0)) := h.seg.1.raw
theorem oldest_any (h : CacheIn w col c b s db rb mb ns) :
    Calls Try.prog 66 #[ptr b] w fun e w' => w = w' ∧ ((e = .returned (.pointer none) ∧ ∀ x ∈ ns, x.2.pins ≠ 0) ∨ ∃ l1 x l2, ns = l1 ++ x :: l2 ∧ (∀ y ∈ l1, y.2.pins ≠ 0) ∧ x.2.pins = 0 ∧ e = .returned (ptr x.1)) := by
  obtain ⟨-, -, c2, -, -, -, -, -, -⟩ := cells_cache h.block
  have hr := h.ring
  clear h
  obtain ⟨v0, hv0⟩ := ring_head hr
  obtain ⟨-, r1, -, -, -, -, -, -⟩ := cells_node hv0
  unfold ptr at c2 r1 ⊢
  go_enter Try.func66, Try.ntmps66
  go_wp2
  go_loop [3] (fun q => ∃ l1 l2, ns = l1 ++ l2 ∧ q = .pointer (some ⟨hd l2 rb, 0, none⟩) ∧ ∀ y ∈ l1, y.2.pins ≠ 0) (fun q => toGo ns (qb q))
  case atStart => exact ⟨[], ns, rfl, rfl, fun y hy => by simp at hy⟩
  case round =>
    obtain ⟨l1, l2, rfl, rfl, hl1⟩ := hrel
    cases l2 with
    | nil =>
      simp only [hd_nil, List.append_nil] at *
      have HL := Lib.hid hl1
      have hq := ptr_eq w rb
      clear hl1 r1
      go_wp2
      go_ret
      exact ⟨rfl, Or.inl ⟨rfl, fun y hy => HL.out y (by simpa using hy)⟩⟩
    | cons x l2 =>
      have hne := hd_ne hr
      obtain ⟨p, v, hv, _⟩ := ring_cells hr
      obtain ⟨-, x1, -, x3, -, -, -, -⟩ := cells_node hv
      unfold ptr at x1
      have hq := ptr_ne hne hv hv0
      have hnd := hr.nodup
      clear hv r1
      simp only [hd_cons] at *
      have HL := Lib.hid hl1
      have hm := Lib.hid (toGo_at hnd)
      have hm2 : Hid (toGo (l1 ++ x :: l2) (hd l2 rb) = l2.length) := by
        have h := toGo_at (l1 := l1 ++ [x]) (l2 := l2) (rb := rb) (by simpa using hnd)
        show _ = _
        rw [List.append_assoc] at h; exact h
      clear hl1 hnd hr
      by_cases hp : x.2.pins = 0
      · have hp' : (x.2.pins == 0) = true := by simp [hp]
        have HP := Lib.hid hp
        clear hp
        go_wp2
        go_ret
        exact ⟨rfl, Or.inr ⟨l1, x, l2, rfl, HL.out, HP.out, rfl⟩⟩
      · have hp' : (x.2.pins == 0) = false := by simp [hp]
        have HP := Lib.hid hp
        clear hp
        go_wp2
        go_round
        case rel => exact ⟨l1 ++ [x], l2, by simp, rfl, fun y hy => by
          rcases List.mem_append.1 hy with hy | hy
          · exact HL.out y hy
          · simp at hy; subst hy; exact HP.out⟩
        case measure =>
          show toGo _ _ < toGo _ _
          have h1 := hm.out
          have h2 := hm2.out
          simp only [hd_cons, qb] at *
          rw [h1, h2]; simp
end
end Go.Proofs.Ytjjgihaikcnjgaa
