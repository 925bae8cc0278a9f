/-
  The walk of Disk.Read: the last pending write of a sector, or its place on the platter, in new memory.
-/
import Derived.Test.YtjjgihaikcnjgaaDBack
import Derived.Test.YtjjgihaikcnjgaaDWalks5
namespace Go.Proofs.Ytjjgihaikcnjgaa
open Go.RowKit Go.Shelf
set_option linter.unusedSimpArgs false
set_option linter.unusedVariables false
set_option maxRecDepth 100000
attribute [local go_sem] Oper.semAt_some

def DS.base (s : DS) (n : Int) : List Int := (s.platter.drop (n * s.size).toNat).take s.size.toNat
def pickP (n : Int) (acc : List Int) (p : Int × List Int) : List Int := if p.1 = n then p.2 else acc
def DS.sector (s : DS) (n : Int) : List Int := s.pending.foldl (pickP n) (s.base n)
theorem pick_none (n : Int) : ∀ (l : List (Int × List Int)) (x : List Int), (∀ p ∈ l, p.1 ≠ n) → l.foldl (pickP n) x = x
  | [], _, _ => rfl
  | p :: l, x, h => by
    rw [List.foldl_cons, pickP, if_neg (h p List.mem_cons_self)]
    exact pick_none n l x (fun q hq => h q (List.mem_cons_of_mem _ hq))
theorem pick_last (n : Int) (l : List (Int × List Int)) (x : List Int) (k : Nat) (hk : k < l.length) (h : l[k].1 = n) (hn : ∀ j, (hj : j < l.length) → k < j → l[j].1 ≠ n) : l.foldl (pickP n) x = l[k].2 := by
  have e : l = l.take (k + 1) ++ l.drop (k + 1) := (List.take_append_drop _ _).symm
  have e2 : l.foldl (pickP n) x = (l.drop (k + 1)).foldl (pickP n) ((l.take (k + 1)).foldl (pickP n) x) := by rw [← List.foldl_append, ← e]
  rw [e2, pick_none n (l.drop (k + 1))]
  · rw [foldl_take _ _ _ hk, pickP, if_pos h]
  · intro p hp
    obtain ⟨j, hj, rfl⟩ := List.mem_iff_getElem.1 hp
    rw [List.getElem_drop]
    exact hn _ _ (by omega)
theorem downTo_front {n j : Nat} {front : List (Below' n)} {x : Below' n} (hj : j ≤ n) (h : (front ++ [x]).map Subtype.val = downTo n j) : ∀ k : Below' n, x.1 < k.1 → k ∈ front := by
  intro k hk
  have hlen := congrArg List.length h
  simp only [List.length_map, List.length_append, List.length_cons, List.length_nil, downTo_length] at hlen
  obtain ⟨m, rfl⟩ : ∃ m, j = m + 1 := ⟨front.length, by omega⟩
  rw [downTo_succ, List.map_append] at h
  have h2 := List.append_inj' h (by simp)
  have hx : x.1 = n - 1 - m := by simpa using h2.2
  have hkm : k.1 ∈ front.map Subtype.val := by
    rw [h2.1]
    simp only [downTo, List.mem_map, List.mem_range]
    exact ⟨n - 1 - k.1, by have := k.2; omega, by have := k.2; omega⟩
  obtain ⟨y, hy, e⟩ := List.mem_map.1 hkm
  have : y = k := Subtype.ext e
  exact this ▸ hy
theorem downTo_all {n : Nat} {xs : List (Below' n)} (h : xs.map Subtype.val = downTo n n) : ∀ k : Below' n, k ∈ xs := by
  intro k
  have hkm : k.1 ∈ xs.map Subtype.val := by
    rw [h]
    simp only [downTo, List.mem_map, List.mem_range]
    exact ⟨n - 1 - k.1, by have := k.2; omega, by have := k.2; omega⟩
  obtain ⟨y, hy, e⟩ := List.mem_map.1 hkm
  have : y = k := Subtype.ext e
  exact this ▸ hy

section
variable {w : World} {col : Nat → Nat} {c b : Nat} {s : DS} {pa : Option Addr} {pcap : Nat} {qa : Option Addr} {qn qcap : Nat} {qs : List Value}
theorem has_any (h : DiskIn w 86 col c b s pa pcap qa qn qcap qs) (n : Int) :
    Calls Try.prog 51 #[.pointer (some ⟨b, 0, none⟩), .int .i64 n] w fun e w' => e = .returned (.bool (decide (0 ≤ n) && decide (n < s.count))) ∧ w = w' := by
  have h1 := h.count
  by_cases h0 : 0 ≤ n
  · go_enter Try.func51, Try.ntmps51
    go_wp2
    go_ret
    exact ⟨by simp [h0], rfl⟩
  · go_enter Try.func51, Try.ntmps51
    go_wp2
    go_ret
    exact ⟨by simp [show ¬ 0 ≤ n by omega], rfl⟩
end
theorem base_len {s : DS} (ok : s.Ok) {n : Int} (n0 : 0 ≤ n) (n1 : n < s.count) : (s.base n).length = s.size.toNat := by
  have h5 := ok.room (n := n) (l := zeros s.size.toNat) n0 n1 (by simp [zeros]; have := ok.size0; omega)
  simp only [zeros, List.length_replicate] at h5
  simp only [DS.base, List.length_take, List.length_drop]
  omega
theorem base_rd {w : World} {T : TypeId} {col : Nat → Nat} {c b : Nat} {s : DS} {g off : Nat} {pcap : Nat} {qa : Option Addr} {qn qcap : Nat} {qs : List Value} (h : DiskIn w T col c b s (some ⟨g, off, none⟩) pcap qa qn qcap qs) (ok : s.Ok) {n : Int} (n0 : 0 ≤ n) (n1 : n < s.count) :
    BytesAt w (fun k => col k = c + 1) (.slice (some ⟨g, off + (n * s.size).toNat, none⟩) s.size.toNat (pcap - (n * s.size).toNat)) (s.base n) := by
  have hbl := base_len ok n0 n1
  have h5 := ok.room (n := n) (l := zeros s.size.toNat) n0 n1 (by simp [zeros]; have := ok.size0; omega)
  simp only [zeros, List.length_replicate] at h5
  have hs := ok.size0
  obtain ⟨g', off', cur, e, hcg, hhg, hl1, hl2, hl3, hl4⟩ := h.placed (by omega)
  injection e with e
  injection e with e1 e2
  subst e1 e2
  refine ⟨by simp, _, _, by rw [hbl], by rw [hbl]; omega, by omega, fun _ => ⟨g, _, rfl, hcg, lt_of_block hhg, ?_⟩⟩
  intro j u hj
  rw [cell_of_block hhg]
  simp only [bcells, DS.base, List.map_take, List.map_drop] at hj
  rw [List.getElem?_take] at hj
  split at hj
  · rename_i hjs
    rw [List.getElem?_drop] at hj
    have : (bcells s.platter)[(n * s.size).toNat + j]? = some u := hj
    rw [← hl4, List.getElem?_take] at this
    split at this
    · rw [List.getElem?_drop] at this
      rw [Nat.add_assoc]
      simpa using this
    · simp at this
  · simp at hj
theorem keeps_of_below {W W' : World} (h : Below W.heap.size W W') : KeepsOthers W W' := ⟨h.size, fun k o hk _ => (h.block k (lt_of_block hk)).trans hk⟩
theorem ownFrom_block {β : Type} (B : Nat) (k : Nat) (cs : Array Value) (t : TypeId) (fr : Nat × Nat) : OwnFrom B (fun (_ : β) W => W.heap[k]? = some (.cells cs t fr)) := fun _ W W' row hs hg hr => by
  show W'.heap[k]? = _
  rw [hg.block k (lt_of_block hs) (fun e => by
    obtain ⟨_, o, ho, hc⟩ := hr k e.symm
    rw [hs] at ho; cases ho; cases hc)]
  exact hs
theorem ownFrom_chg {β : Type} (B : Nat) (own : Nat → Prop) (W0 : World) (hB : W0.heap.size ≤ B) : OwnFrom B (fun (_ : β) W => Chg own W0 W) := fun _ W W' row hs hg hr =>
  hs.trans' (own2 := fun k => W0.heap.size ≤ k) ⟨hg.os, hg.tape, hg.output, hg.size, fun k hk hn => hg.block k hk (fun e => hn (by have := (hr k e.symm).1; omega))⟩ (fun i hi e => absurd hi (by omega))
theorem SlAt.grown {W W' : World} {own : Nat → Prop} {e : TypeId} {size : Nat} {v : Value} {n : Nat} {xs : List Value} {row : Option Nat} (h : SlAt W own e size v n xs) (hg : W.grownBy W' row) (hr : ∀ r, row = some r → ∃ o : Obj, W.heap[r]? = some o ∧ o.isCells = false) : SlAt W' own e size v n xs := by
  obtain ⟨h1, h2⟩ := h
  rcases h2 with h2 | ⟨g, off, cap, cur, rfl, h3, hh, r⟩
  · exact ⟨h1, Or.inl h2⟩
  · refine ⟨h1, Or.inr ⟨g, off, cap, cur, rfl, h3, ?_, r⟩⟩
    rw [hg.block g (lt_of_block hh) (fun e => by
      obtain ⟨o, ho, hc⟩ := hr g e.symm
      rw [hh] at ho; cases ho; cases hc)]
    exact hh
theorem chg_putObj {own : Nat → Prop} {a w : World} (h : Chg own a w) {D : Nat} (o : Obj) (hD : a.heap.size ≤ D) : Chg own a (w.putObj D o) :=
  h.trans' (own2 := fun k => a.heap.size ≤ k) ⟨rfl, rfl, rfl, by simp [World.putObj], fun k hk hn => World.putObj_heap_other (fun e => hn (by omega))⟩ (fun i hi e => absurd hi (by omega))
/-- what a round that returns leaves: the result in its two boxes -/
def ResAt (W0 : World) (r1 r2 : Nat) (l : List Int) (W : World) : Prop :=
  ∃ a cap, W.heap[r1]? = some (.cells #[.slice a l.length cap] 34 (0, 0)) ∧ W.heap[r2]? = some (.cells #[.int .i64 0] 35 (0, 0)) ∧ SlAt W (fun k => W0.heap.size ≤ k) 5 1 (.slice a l.length cap) l.length (bcells l) ∧ Chg (fun k => k = r1 ∨ k = r2) W0 W
theorem ownFrom_res {β : Type} (W0 : World) (r1 r2 : Nat) (f : β → List Int) : OwnFrom W0.heap.size (fun s W => ResAt W0 r1 r2 (f s) W) := fun s W W' row hs hg hr => by
  obtain ⟨a, cap, h1, h2, h3, h4⟩ := hs
  exact ⟨a, cap, ownFrom_block (β := Unit) _ _ _ _ _ () W W' row h1 hg hr, ownFrom_block (β := Unit) _ _ _ _ _ () W W' row h2 hg hr, h3.grown hg (fun r e => (hr r e).2), ownFrom_chg (β := Unit) _ _ W0 (Nat.le_refl _) () W W' row h4 hg hr⟩
def DS.read (s : DS) : DS := { s with reads := wrap64 (s.reads + 1) }
def ReadTells (w : World) (col : Nat → Nat) (c b : Nat) (s : DS) (l : List Int) (e : Ending) (w' : World) : Prop :=
  ∃ a cap, e = .returned (.tuple #[.slice a l.length cap, .int .i64 0]) ∧ SlAt w' (fun k => w.heap.size ≤ k) 5 1 (.slice a l.length cap) l.length (bcells l) ∧ DiskAt w' 86 col c b s.read ∧ Chg (inC col c) w w'

theorem read_end {w Wa W0 W : World} {col : Nat → Nat} {c b : Nat} {s : DS} {pa : Option Addr} {pcap : Nat} {qa : Option Addr} {qn qcap : Nat} {qs : List Value} {r1 r2 D : Nat} {l : List Int} {o : Obj}
    (hres : ResAt W0 r1 r2 l W) (hD : W0.heap.size ≤ D) (h4 : DiskIn Wa 86 col c b s.read pa pcap qa qn qcap qs) (hb0 : Below Wa.heap.size Wa W0) (hks : Chg (inC col c) w Wa) (hsz : Wa.heap.size = w.heap.size) (hr1 : Wa.heap.size ≤ r1) (hr2 : Wa.heap.size ≤ r2) (h1 : r1 < W0.heap.size) (h2 : r2 < W0.heap.size) (hKD : W.heap[D]? = some (.deferred (some []))) :
    ∃ a cap, (W.putObj D o).cell? ⟨r1, 0, none⟩ = some (.slice a l.length cap) ∧ (W.putObj D o).cell? ⟨r2, 0, none⟩ = some (.int .i64 0) ∧ ReadTells w col c b s l (.returned (.tuple #[.slice a l.length cap, .int .i64 0])) (W.putObj D o) := by
  obtain ⟨a, cap, e1, e2, e3, e4⟩ := hres
  have hs0 := hb0.size
  have hne : ∀ k, k < W0.heap.size → (W.putObj D o).heap[k]? = W.heap[k]? := fun k hk => World.putObj_heap_other (by omega)
  have ka : ∀ k, k < Wa.heap.size → (W.putObj D o).heap[k]? = Wa.heap[k]? := fun k hk => by
    rw [hne k (by omega), e4.block k (by omega) (by omega), hb0.block k hk]
  have hsW := e4.size
  have kch : Chg (fun _ => False) Wa (W.putObj D o) := ⟨e4.os.trans hb0.os, e4.tape.trans hb0.tape, e4.output.trans hb0.output, by simp [World.putObj]; omega, fun k hk _ => ka k hk⟩
  refine ⟨a, cap, ?_, ?_, ⟨a, cap, rfl, ?_, ?_, hks.trans (kch.mono (fun _ _ e => e.elim))⟩⟩
  · rw [World.cell?_of_block (w := W) (hne r1 h1), cell_of_block e1]; rfl
  · rw [World.cell?_of_block (w := W) (hne r2 h2), cell_of_block e2]; rfl
  · exact (e3.grown (grownBy_putObj' W D o) (fun r e => by cases e; exact ⟨_, hKD, rfl⟩)).mono (fun k _ e => by omega)
  · exact (h4.keep (fun k hk _ => ka k hk) (Ext.refl _ _) kch.size).at

set_option maxRecDepth 100000 in
set_option maxHeartbeats 2000000 in
theorem read_ok (w : World) (col : Nat → Nat) (c b : Nat) (s : DS) (n : Int) (h : DiskAt w 86 col c b s) (hc : 1 < c) (ok : s.Ok) (hp : s.pending.length ≤ 1073741824) (hn0 : 0 ≤ n) (hn1 : n < s.count) :
    Calls Try.prog 23 #[.pointer (some ⟨b, 0, none⟩), .int .i64 n] w fun e w' => ReadTells w col c b s (s.sector n) e w' := by
  obtain ⟨pa, pcap, qa, qn, qcap, qs, h⟩ := h
  have hin : inC col c b := by unfold inC; have := h.color; omega
  have hs : 0 < s.size := by have := ok.size0; omega
  have hbl := h.lt
  have hhas : Hid ((decide (0 ≤ n) && decide (n < s.count)) = true) := by simp [Hid, hn0, hn1]
  have hB := h.below ((((Below.refl _ w).alloc (Nat.le_refl _) (.cells #[.int .i64 n] 3)).alloc (by simp) (.cells #[.slice none 0 0] 34)).alloc (by simp; omega) (.cells #[.int .i64 0] 35))
  have c4 := h.reads
  have f4 := h.free 4
  have c3 := h.pending
  have hbl1 : b < w.heap.size + 1 := by omega
  have hbl2 : b < w.heap.size + 1 + 1 := by omega
  have hbl3 : b < w.heap.size + 1 + 1 + 1 := by omega
  refine (callsIn_wide (n := 9)).1 ?_
  refine callsIn_of_wp_marks Try.func23 rfl trivial ?_ rfl
  simp only [Try.ntmps23, List.size_toArray, List.length_cons, List.length_nil, Nat.reduceAdd, Nat.reduceSub, Array.replicate_succ, Array.replicate_zero, List.push_toArray, List.append_toArray, List.nil_append, List.cons_append]
  gi_wp2_with (first | (refine ⟨trivial, ?_⟩; gi_at_call 41; refine (callsIn_wide.2 (made_yes hB hs)).mono ?_; rintro e w' ⟨rfl, rfl⟩) | (refine ⟨trivial, ?_⟩; gi_at_call 51; refine (callsIn_wide.2 (has_any hB n)).mono ?_; rintro e w' ⟨rfl, rfl⟩; rw [hhas.out]) | (refine ⟨trivial, ?_⟩; gi_at_call 52; refine (backward_in _ _ trivial rfl _ _ _ _).mono ?_; rintro e w' ⟨rfl, rfl⟩))
  -- the world at the loop
  have h4 := (h.store hc s.read 4 (.int .i64 (wrap64 (s.reads + 1))) rfl rfl rfl)
  have hks : Chg (inC col c) w (w.setCell ⟨b, 4, none⟩ (.int .i64 (wrap64 (s.reads + 1)))) := Chg.of_set _ _ _ _ hin
  have hsz : (w.setCell ⟨b, 4, none⟩ (.int .i64 (wrap64 (s.reads + 1)))).heap.size = w.heap.size := by simp
  generalize w.setCell ⟨b, 4, none⟩ (.int .i64 (wrap64 (s.reads + 1))) = Wa at *
  rw [← hsz]
  have hb0 : Below Wa.heap.size Wa ((((Wa.alloc (.cells #[.int .i64 n] 3)).alloc (.cells #[.slice none 0 0] 34)).alloc (.cells #[.int .i64 0] 35)).alloc (.cells #[.slice qa qn qcap] 84)) := ((((Below.refl _ Wa).alloc (Nat.le_refl _) _).alloc (by simp) _).alloc (by simp; omega) _).alloc (by simp; omega) _
  have q0 : ((((Wa.alloc (.cells #[.int .i64 n] 3)).alloc (.cells #[.slice none 0 0] 34)).alloc (.cells #[.int .i64 0] 35)).alloc (.cells #[.slice qa qn qcap] 84)).heap[Wa.heap.size]? = some (.cells #[.int .i64 n] 3 (0, 0)) := block_old _ (block_old _ (block_old _ (block_new _ _)))
  have q1 : ((((Wa.alloc (.cells #[.int .i64 n] 3)).alloc (.cells #[.slice none 0 0] 34)).alloc (.cells #[.int .i64 0] 35)).alloc (.cells #[.slice qa qn qcap] 84)).heap[Wa.heap.size + 1]? = some (.cells #[.slice none 0 0] 34 (0, 0)) := by
    have := block_new (Wa.alloc (.cells #[.int .i64 n] 3)) (.cells #[.slice none 0 0] 34); rw [World.size_alloc] at this; exact block_old _ (block_old _ this)
  have q2 : ((((Wa.alloc (.cells #[.int .i64 n] 3)).alloc (.cells #[.slice none 0 0] 34)).alloc (.cells #[.int .i64 0] 35)).alloc (.cells #[.slice qa qn qcap] 84)).heap[Wa.heap.size + 1 + 1]? = some (.cells #[.int .i64 0] 35 (0, 0)) := by
    have := block_new ((Wa.alloc (.cells #[.int .i64 n] 3)).alloc (.cells #[.slice none 0 0] 34)) (.cells #[.int .i64 0] 35); rw [World.size_alloc, World.size_alloc] at this; exact block_old _ this
  have q3 : ((((Wa.alloc (.cells #[.int .i64 n] 3)).alloc (.cells #[.slice none 0 0] 34)).alloc (.cells #[.int .i64 0] 35)).alloc (.cells #[.slice qa qn qcap] 84)).heap[Wa.heap.size + 1 + 1 + 1]? = some (.cells #[.slice qa qn qcap] 84 (0, 0)) := by
    have := block_new (((Wa.alloc (.cells #[.int .i64 n] 3)).alloc (.cells #[.slice none 0 0] 34)).alloc (.cells #[.int .i64 0] 35)) (.cells #[.slice qa qn qcap] 84); rw [World.size_alloc, World.size_alloc, World.size_alloc] at this; exact this
  have hsz0 : ((((Wa.alloc (.cells #[.int .i64 n] 3)).alloc (.cells #[.slice none 0 0] 34)).alloc (.cells #[.int .i64 0] 35)).alloc (.cells #[.slice qa qn qcap] 84)).heap.size = Wa.heap.size + 1 + 1 + 1 + 1 := by simp
  generalize ((((Wa.alloc (.cells #[.int .i64 n] 3)).alloc (.cells #[.slice none 0 0] 34)).alloc (.cells #[.int .i64 0] 35)).alloc (.cells #[.slice qa qn qcap] 84)) = W0 at *
  have hd0 := h4.below hb0
  have hqn := hd0.len
  have hq1 : qn ≤ 1073741824 := by rw [hqn]; exact hp
  have hlt := hd0.lt
  have Hsz := Lib.hid hsz; clear hsz
  have Hsz0 := Lib.hid hsz0
  have Hqn := Lib.hid hqn
  have hle1 : Wa.heap.size + 1 + 1 + 1 < W0.heap.size := by omega
  clear hsz0 hqn
  refine wpIn_rangeFunc_ownH rfl (by omega) (gf := 74) (lb := #[.pointer (some ⟨Wa.heap.size + 1 + 1 + 1, 0, none⟩)]) rfl trivial (enters_of Try.func74 (by kernel_rfl) rfl)
    (back_stops Fence.wide (9 - 1) trivial rfl (by omega) (Wa.heap.size + 1 + 1 + 1) W0.heap.size qa qn qcap qs hq1 W0 (by omega) (Nat.le_refl _) (by rw [cell_of_block q3]; rfl) ?hI) belowK_t (belowK_b (Nat.le_refl _)) (Below.refl _ _) (fun _ => rfl)
    (fun pre W => (∀ x ∈ pre, (s.pending[x.1]?.getD (0, [])).1 ≠ n) ∧ Below W0.heap.size W0 W)
    (fun cd pre W => cd = .ret ∧ ∃ (front : List (Below' qn)) (x : Below' qn), pre = front ++ [x] ∧ (s.pending[x.1]?.getD (0, [])).1 = n ∧ (∀ y ∈ front, (s.pending[y.1]?.getD (0, [])).1 ≠ n) ∧ ResAt W0 (Wa.heap.size + 1) (Wa.heap.size + 1 + 1) (s.pending[x.1]?.getD (0, [])).2 W)
    ?oI ?oIx ⟨by simp, Below.refl _ _⟩
    (fun x a' W => ∃ Bx a n' cap', W0.heap.size ≤ Bx ∧ W.heap[Bx]? = some (.cells #[.int .i64 (s.pending[x.1]?.getD (0, [])).1, .slice a n' cap'] 88 (0, 0)) ∧ (∀ W', Below W0.heap.size W0 W' → BytesAt W' (fun k => col k = 1) (.slice a n' cap') (s.pending[x.1]?.getD (0, [])).2) ∧
      a' = { tmps := #[.pointer (some ⟨b, 0, none⟩), .int .i64 n, undef, .pointer (some ⟨Wa.heap.size, 0, none⟩), .pointer (some ⟨Wa.heap.size + 1, 0, none⟩), .pointer (some ⟨Wa.heap.size + 1 + 1, 0, none⟩), undef, .pointer (some ⟨Bx, 0, none⟩), .bool false, .pointer (some ⟨b, 0, none⟩), .bool true, .bool false, .bool false, .pointer (some ⟨b, 0, none⟩), .int .i64 n, .bool true, .bool false, .pointer (some ⟨b, 0, none⟩), .pointer (some ⟨b, 0, none⟩), .pointer (some ⟨b, 4, none⟩), .int .i64 s.reads, .int .i64 (wrap64 (s.reads + 1)), .pointer (some ⟨b, 0, none⟩), .pointer (some ⟨b, 4, none⟩), .pointer (some ⟨b, 0, none⟩), .pointer (some ⟨b, 0, none⟩), .pointer (some ⟨b, 3, none⟩), .slice qa qn qcap, .func (.func 74) #[] #[.pointer (some ⟨Wa.heap.size + 1 + 1 + 1, 0, none⟩)], .int .i64 (x.1 : Int), qel qs x.1, undef, undef, undef, undef, undef, undef, undef, undef, undef, undef, undef], defers := [] })
    ?oA ?assign ?body ?done ?stop
  case hI =>
    intro hpos
    obtain ⟨g, off, e, _, hg, hcs⟩ := hd0.list.rd.get hpos
    refine ⟨g, off, e, hg, fun j hj => ?_⟩
    have hj' : j < qs.length := by have := hd0.list.1; omega
    rw [List.getElem?_eq_getElem hj']
    exact hcs j _ (List.getElem?_eq_getElem hj')
  case oI => exact fun s A B row hs hg hr => ⟨hs.1, ownFrom_below (β := Unit) (Nat.le_refl _) (Nat.le_refl _) () A B row hs.2 hg hr⟩
  case oIx =>
    intro cd pre A B row hs hg hr
    obtain ⟨h1, front, x, h2, h3, h4, h5⟩ := hs
    exact ⟨h1, front, x, h2, h3, h4, ownFrom_res (β := Unit) W0 _ _ (fun _ => _) () A B row h5 hg hr⟩
  case oA =>
    intro x a' u A B row hs hg hr
    obtain ⟨Bx, a, n', cap', h1, h2, h3, h4⟩ := hs
    exact ⟨Bx, a, n', cap', h1, ownFrom_block (β := Unit) _ _ _ _ _ () A B row h2 hg hr, h3, h4⟩
  case assign =>
    rintro l pre x W K ⟨hne, hbw⟩ hK
    obtain ⟨a', n', cap', e1, e2, e3⟩ := PendC.get hd0.pend x.1 (by have := x.2; have := Hqn.out; omega)
    have hx : s.pending[x.1]?.getD (0, []) = s.read.pending[x.1]'(by have := x.2; have := Hqn.out; omega) := by
      rw [List.getElem?_eq_getElem (by have := x.2; have := Hqn.out; show x.1 < s.read.pending.length; omega)]; rfl
    have hq : qel qs x.1 = .agg #[.int .i64 (s.pending[x.1]?.getD (0, [])).1, .slice a' n' cap'] := by simp [qel, e1, e2, hx]
    rw [← hx] at e3
    have hK' := hK { tmps := #[.pointer (some ⟨b, 0, none⟩), .int .i64 n, undef, .pointer (some ⟨Wa.heap.size, 0, none⟩), .pointer (some ⟨Wa.heap.size + 1, 0, none⟩), .pointer (some ⟨Wa.heap.size + 1 + 1, 0, none⟩), undef, .pointer (some ⟨W.heap.size, 0, none⟩), .bool false, .pointer (some ⟨b, 0, none⟩), .bool true, .bool false, .bool false, .pointer (some ⟨b, 0, none⟩), .int .i64 n, .bool true, .bool false, .pointer (some ⟨b, 0, none⟩), .pointer (some ⟨b, 0, none⟩), .pointer (some ⟨b, 4, none⟩), .int .i64 s.reads, .int .i64 (wrap64 (s.reads + 1)), .pointer (some ⟨b, 0, none⟩), .pointer (some ⟨b, 4, none⟩), .pointer (some ⟨b, 0, none⟩), .pointer (some ⟨b, 0, none⟩), .pointer (some ⟨b, 3, none⟩), .slice qa qn qcap, .func (.func 74) #[] #[.pointer (some ⟨Wa.heap.size + 1 + 1 + 1, 0, none⟩)], .int .i64 (x.1 : Int), qel qs x.1, undef, undef, undef, undef, undef, undef, undef, undef, undef, undef, undef], defers := [] }
      (W.alloc (.cells #[.int .i64 (s.pending[x.1]?.getD (0, [])).1, .slice a' n' cap'] 88)) ((KeepsOthers.alloc _ _).from _) ((Below.refl _ W).alloc hbw.size _) ⟨hne, hbw.alloc hbw.size _⟩
      ⟨W.heap.size, a', n', cap', hbw.size, block_new _ _, fun W' hW' => e3.below hW', rfl⟩
    clear hK
    rw [hq] at hK'
    simp only [hq]
    have HK := Lib.hid hK'
    clear hx hq e1 e2 e3 hK'
    gi_wp2
    exact HK.out
  case body =>
    rintro l pre x a' W hl ⟨r, hr⟩ ⟨hne, hbw⟩ ⟨Bx, a, n', cap', hBx, hblk, hbytes, rfl⟩ hlen
    have k0 : W.cell? ⟨Bx, 0, none⟩ = some (.int .i64 (s.pending[x.1]?.getD (0, [])).1) := by rw [cell_of_block hblk]; rfl
    have k1 : W.cell? ⟨Bx, 1, none⟩ = some (.slice a n' cap') := by rw [cell_of_block hblk]; rfl
    have kn : W.cell? ⟨Wa.heap.size, 0, none⟩ = some (.int .i64 n) := by rw [cell_of_block (below_keeps hbw q0 (lt_of_block q0))]; rfl
    have hxv : x.1 < qn := x.2
    generalize hp : s.pending[x.1]?.getD (0, []) = p at *
    have Hp := Lib.hid hp; clear hp hr
    have hsW := hbw.size
    by_cases he : p.1 = n
    · have he' : (p.1 == n) = true := by simp [he]
      have He := Lib.hid he
      have hll : p.2.length ≤ 1073741824 := by
        have hx' : x.1 < s.pending.length := by have := Hqn.out; simp only [DS.read] at this; omega
        have hm : p ∈ s.pending := by
          rw [← Hp.out, List.getElem?_eq_getElem hx']; exact List.getElem_mem hx'
        have := (ok.pend p hm).2.2; have := ok.size1; omega
      clear he
      gi_wp2_with (refine ⟨trivial, ?_⟩; gi_at_call 34; refine (CallsIn.inRound l (callsIn_wide.2 (clone_any W _ _ _ (hbytes W hbw) hll))).mono ?_; rintro e w6 ⟨⟨a6, cap6, rfl, hs6⟩, hb6⟩; (have z1 := below_keeps hb6 (below_keeps hbw q1 (lt_of_block q1)) (by have := lt_of_block q1; omega)); (have z2 := below_keeps hb6 (below_keeps hbw q2 (lt_of_block q2)) (by have := lt_of_block q2; omega)); (have y1 : w6.cell? ⟨Wa.heap.size + 1, 0, none⟩ = some (.slice none 0 0) := by rw [cell_of_block z1]; rfl); (have y2 : w6.cell? ⟨Wa.heap.size + 1 + 1, 0, none⟩ = some (.int .i64 0) := by rw [cell_of_block z2]; rfl); (have g1 := free_of_block z1 0); (have g2 := free_of_block z2 0))
      refine ⟨((keeps_of_below hb6).trans ((KeepsOthers.setCell _ _ _).trans (KeepsOthers.setCell _ _ _))).from _, rfl, pre, x, rfl, by rw [Hp.out]; exact He.out, hne, ?_⟩
      rw [Hp.out]
      refine ⟨a6, cap6, ?_, ?_, ?_, ?_⟩
      · rw [block_set_other (block_set z1 0 _) _ _ (by simp)]; rfl
      · rw [block_set (block_set_other z2 _ _ (by simp))]; rfl
      · refine hs6.keep (own2 := fun k => W0.heap.size ≤ k) (fun k hk e => ?_) (fun k hk e => by omega)
        rw [Below.heap_setCell _ _ _ _ (by simp only; omega), Below.heap_setCell _ _ _ _ (by simp only; omega)]
      · exact Chg.trans (Chg.trans (Chg.of_below' (B := W0.heap.size) (hbw.trans (hb6.mono hsW)) (fun i hi _ => hi)) (Chg.of_set _ _ _ _ (Or.inl rfl))) (Chg.of_set _ _ _ _ (Or.inr rfl))
    · have he' : (p.1 == n) = false := by simp [he]
      have He := Lib.hid he
      clear he
      gi_wp2
      refine ⟨KeepsFrom.refl _ _, Below.refl _ _, ?_, hbw⟩
      intro y hy
      rcases List.mem_append.1 hy with h | h
      · exact hne y h
      · simp at h; subst h; rw [Hp.out]; exact He.out
  case done =>
    rintro D xs W hD hall ⟨hne, hbw⟩ hK
    have hdW := hd0.below hbw
    have okr : s.read.Ok := ⟨ok.size0, ok.size1, ok.count0, ok.count1, ok.plen, ok.pend, ok.left⟩
    have hpos : 0 < s.read.platter.length := by
      have := ok.plen; have := ok.size0; have := ok.count0
      have : 1 * 1 ≤ s.size * s.count := Int.mul_le_mul (by omega) ok.count0 (by omega) (by omega)
      show 0 < s.platter.length
      omega
    obtain ⟨g, off, cur, rfl, hcg, hhg, hl1, hl2, hl3, hl4⟩ := hdW.placed hpos
    have hbase := Lib.hid (base_len ok hn0 hn1)
    have kn : W.cell? ⟨Wa.heap.size, 0, none⟩ = some (.int .i64 n) := by rw [cell_of_block (below_keeps hbw q0 (lt_of_block q0))]; rfl
    have hsec : s.sector n = s.base n := by
      refine pick_none n _ _ (fun p hp => ?_)
      obtain ⟨j, hj, rfl⟩ := List.mem_iff_getElem.1 hp
      have hjq : j < qn := by have := Hqn.out; simp only [DS.read] at this; omega
      have := hne ⟨j, hjq⟩ (downTo_all hall ⟨j, hjq⟩)
      rw [List.getElem?_eq_getElem hj] at this
      exact this
    have hsW := hbw.size
    have Hall := Lib.hid hne
    clear hne
    gi_wp2_with (first | (refine ⟨trivial, ?_⟩; gi_at_call 50; refine (callsIn_wide.2 (at_any2 hdW ok.size0 ok.size1 ok.count1 hn0 hn1 ok.plen)).mono ?_; rintro e w5 ⟨rfl, hb5⟩) | (refine ⟨trivial, ?_⟩; gi_at_call 34; refine (callsIn_wide.2 (clone_any w5 _ _ _ (base_rd (hdW.below hb5) okr hn0 hn1) (by have := hbase.out; have := ok.size1; show (s.base n).length ≤ _; omega))).mono ?_; rintro e w6 ⟨⟨a6, cap6, rfl, hs6⟩, hb6⟩; (have hbW6 := below_grow hb5 (Nat.le_refl _) hb6); (have z1 := below_keeps hbW6 (below_keeps hbw q1 (lt_of_block q1)) (by have := lt_of_block q1; omega)); (have z2 := below_keeps hbW6 (below_keeps hbw q2 (lt_of_block q2)) (by have := lt_of_block q2; omega)); (have y1 : w6.cell? ⟨Wa.heap.size + 1, 0, none⟩ = some (.slice none 0 0) := by rw [cell_of_block z1]; rfl); (have y2 : w6.cell? ⟨Wa.heap.size + 1 + 1, 0, none⟩ = some (.int .i64 0) := by rw [cell_of_block z2]; rfl); (have g1 := free_of_block z1 0); (have g2 := free_of_block z2 0)))
    have hres : ResAt W0 (Wa.heap.size + 1) (Wa.heap.size + 1 + 1) (s.base n) ((w6.setCell ⟨Wa.heap.size + 1, 0, none⟩ (.slice a6 (s.read.base n).length cap6)).setCell ⟨Wa.heap.size + 1 + 1, 0, none⟩ (.int .i64 0)) := by
      refine ⟨a6, cap6, ?_, ?_, ?_, ?_⟩
      · rw [block_set_other (block_set z1 0 _) _ _ (by simp)]; rfl
      · rw [block_set (block_set_other z2 _ _ (by simp))]; rfl
      · have h5 := hb5.size
        refine hs6.keep (own2 := fun k => W0.heap.size ≤ k) (fun k hk e => ?_) (fun k hk e => by omega)
        rw [Below.heap_setCell _ _ _ _ (by simp only; omega), Below.heap_setCell _ _ _ _ (by simp only; omega)]
      · exact Chg.trans (Chg.trans (Chg.of_below' (B := W0.heap.size) (hbw.trans (hbW6.mono hsW)) (fun i hi _ => hi)) (Chg.of_set _ _ _ _ (Or.inl rfl))) (Chg.of_set _ _ _ _ (Or.inr rfl))
    have hK' := ((keeps_of_below hbW6).trans ((KeepsOthers.setCell w6 ⟨Wa.heap.size + 1, 0, none⟩ (.slice a6 (s.read.base n).length cap6)).trans (KeepsOthers.setCell _ ⟨Wa.heap.size + 1 + 1, 0, none⟩ (.int .i64 0)))).same D _ hK rfl
    obtain ⟨ra, rcap, r1, r2, r3⟩ := read_end (o := .deferred none) hres hD h4 hb0 hks Hsz.out (by omega) (by omega) (by omega) (by omega) hK'
    rw [hsec]
    refine ⟨by simp, .inl ⟨_, _, rfl, run_takeDeferred hK', ?_⟩⟩
    refine ⟨.tuple #[.slice ra (s.base n).length rcap, .int .i64 0], ?_, r3⟩
    simp [results, Try.f23, go_sem, r1, r2]
  case stop =>
    rintro D cd pre W hD ⟨k, hk, hdown⟩ ⟨rfl, front, x, rfl, hN, hfr, hres⟩ hK
    have hsec : s.sector n = (s.pending[x.1]?.getD (0, [])).2 := by
      have hxq : x.1 < s.pending.length := by have := Hqn.out; have := x.2; simp only [DS.read] at *; omega
      rw [List.getElem?_eq_getElem hxq] at hN ⊢
      refine pick_last n _ _ x.1 hxq hN (fun j hj hlt => ?_)
      have hjq : j < qn := by have := Hqn.out; simp only [DS.read] at this; omega
      have := hfr ⟨j, hjq⟩ (downTo_front hk hdown ⟨j, hjq⟩ hlt)
      rw [List.getElem?_eq_getElem hj] at this
      exact this
    obtain ⟨ra, rcap, r1, r2, r3⟩ := read_end (o := .deferred none) hres hD h4 hb0 hks Hsz.out (by omega) (by omega) (by omega) (by omega) hK
    have R1 := Lib.hid r1
    have R2 := Lib.hid r2
    have Hsec := Lib.hid hsec
    clear hsec r1 r2
    gi_wp2
    rw [Hsec.out]
    refine ⟨by simp, .inl ⟨_, _, rfl, run_takeDeferred hK, ?_⟩⟩
    refine ⟨.tuple #[.slice ra (s.pending[x.1]?.getD (0, [])).2.length rcap, .int .i64 0], ?_, r3⟩
    have r1 := R1.out
    have r2 := R2.out
    simp [results, Try.f23, go_sem, r1, r2]
end Go.Proofs.Ytjjgihaikcnjgaa
