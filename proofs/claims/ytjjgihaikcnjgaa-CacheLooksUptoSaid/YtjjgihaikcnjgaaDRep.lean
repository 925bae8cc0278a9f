/-
  A disk as it lies in memory, and as plain data; blocks are told apart by colours: 1: bytes that nobody writes any more; c, c+1, c+2: the struct, the platter, the list of pending writes of the disk of colour c.
-/
import Derived.Test.YtjjgihaikcnjgaaSl
namespace Go.Proofs.Ytjjgihaikcnjgaa
open Go.RowKit
set_option linter.unusedSimpArgs false
set_option linter.unusedVariables false
set_option maxRecDepth 100000

/-- a disk's state -/
structure DS where
  size : Int
  count : Int
  platter : List Int
  pending : List (Int × List Int)
  reads : Int
  writes : Int
  flushes : Int
  stops : Bool
  left : Int

def bcells (l : List Int) : List Value := l.map (Value.int .u8)
@[simp] theorem bcells_len (l : List Int) : (bcells l).length = l.length := by simp [bcells]
theorem bcells_one (l : List Int) : ∀ u ∈ bcells l, u.oneCell' = true := by
  intro u hu
  simp only [bcells, List.mem_map] at hu
  obtain ⟨x, _, rfl⟩ := hu
  rfl
theorem bcells_append (l m : List Int) : bcells (l ++ m) = bcells l ++ bcells m := by simp [bcells]
theorem bcells_get {l : List Int} {j : Nat} (h : j < l.length) : (bcells l)[j]? = some (.int .u8 l[j]) := by simp [bcells, h]

/-- bytes that read so -/
def BytesAt (w : World) (own : Nat → Prop) (v : Value) (l : List Int) : Prop := RdAt w own 1 v l.length (bcells l)

/-- the cells of pending writes -/
def PendC (w : World) (col : Nat → Nat) : List (Int × List Int) → List Value → Prop
  | [], cs => cs = []
  | p :: ps, cs => ∃ a n cap rest, cs = .int .i64 p.1 :: .slice a n cap :: rest ∧ BytesAt w (fun k => col k = 1) (.slice a n cap) p.2 ∧ PendC w col ps rest

theorem BytesAt.shape {w : World} {own : Nat → Prop} {v : Value} {l : List Int} (h : BytesAt w own v l) : ∃ a cap, v = .slice a l.length cap := by
  obtain ⟨_, a, cap, rfl, _⟩ := h; exact ⟨a, cap, rfl⟩
theorem PendC.len {w : World} {col : Nat → Nat} : ∀ {ps : List (Int × List Int)} {cs : List Value}, PendC w col ps cs → cs.length = ps.length * 2
  | [], cs, h => by simp only [PendC] at h; subst h; rfl
  | p :: ps, cs, h => by
    obtain ⟨a, n, cap, rest, rfl, _, h⟩ := h
    have := PendC.len h
    simp only [List.length_cons, this]; omega
theorem PendC.one {w : World} {col : Nat → Nat} : ∀ {ps : List (Int × List Int)} {cs : List Value}, PendC w col ps cs → ∀ u ∈ cs, u.oneCell' = true
  | [], cs, h => by simp only [PendC] at h; subst h; simp
  | p :: ps, cs, h => by
    obtain ⟨a, n, cap, rest, rfl, _, h⟩ := h
    have := PendC.one h
    intro u hu
    rcases List.mem_cons.1 hu with rfl | hu
    · rfl
    · rcases List.mem_cons.1 hu with rfl | hu
      · rfl
      · exact this u hu
theorem PendC.append {w : World} {col : Nat → Nat} {p : Int × List Int} {a : Option Addr} {n cap : Nat} (hp : BytesAt w (fun k => col k = 1) (.slice a n cap) p.2) :
    ∀ {ps : List (Int × List Int)} {cs : List Value}, PendC w col ps cs → PendC w col (ps ++ [p]) (cs ++ [.int .i64 p.1, .slice a n cap])
  | [], cs, h => by simp only [PendC] at h; subst h; exact ⟨a, n, cap, [], rfl, hp, rfl⟩
  | q :: ps, cs, h => by
    obtain ⟨a', n', cap', rest, rfl, h1, h⟩ := h
    exact ⟨a', n', cap', _, rfl, h1, PendC.append hp h⟩
theorem PendC.get {w : World} {col : Nat → Nat} : ∀ {ps : List (Int × List Int)} {cs : List Value}, PendC w col ps cs → ∀ i (h : i < ps.length),
    ∃ a n cap, cs[i * 2]? = some (.int .i64 ps[i].1) ∧ cs[i * 2 + 1]? = some (.slice a n cap) ∧ BytesAt w (fun k => col k = 1) (.slice a n cap) ps[i].2
  | [], cs, h, i, hi => by simp at hi
  | p :: ps, cs, h, i, hi => by
    obtain ⟨a, n, cap, rest, rfl, h1, h⟩ := h
    cases i with
    | zero => exact ⟨a, n, cap, by simp, by simp, h1⟩
    | succ i =>
      obtain ⟨a', n', cap', e1, e2, e3⟩ := PendC.get h i (by simpa using hi)
      refine ⟨a', n', cap', ?_, ?_, e3⟩
      · rw [show (i + 1) * 2 = i * 2 + 1 + 1 by omega]; simpa using e1
      · rw [show (i + 1) * 2 + 1 = i * 2 + 1 + 1 + 1 by omega]; simpa using e2
theorem PendC.keep {w w' : World} {col col' : Nat → Nat} (hk : ∀ k, k < w.heap.size → col k = 1 → w'.heap[k]? = w.heap[k]?) (ho : ∀ k, k < w.heap.size → col' k = col k) (hs : w.heap.size ≤ w'.heap.size) :
    ∀ {ps : List (Int × List Int)} {cs : List Value}, PendC w col ps cs → PendC w' col' ps cs
  | [], cs, h => h
  | p :: ps, cs, h => by
    obtain ⟨a, n, cap, rest, rfl, h1, h⟩ := h
    exact ⟨a, n, cap, rest, rfl, RdAt.keep h1 hk (fun k hk' e => by rw [ho k hk']; exact e) hs, PendC.keep hk ho hs h⟩

/-- a disk in memory -/
def dcells (s : DS) (pv qv : Value) : Array Value := #[.int .i64 s.size, .int .i64 s.count, pv, qv, .int .i64 s.reads, .int .i64 s.writes, .int .i64 s.flushes, .bool s.stops, .int .i64 s.left]
structure DiskIn (w : World) (T : TypeId) (col : Nat → Nat) (c b : Nat) (s : DS) (pa : Option Addr) (pcap : Nat) (qa : Option Addr) (qn qcap : Nat) (qs : List Value) : Prop where
  block : w.heap[b]? = some (.cells (dcells s (.slice pa s.platter.length pcap) (.slice qa qn qcap)) T (0, 0))
  color : col b = c
  plat : SlAt w (fun k => col k = c + 1) 5 1 (.slice pa s.platter.length pcap) s.platter.length (bcells s.platter)
  list : SlAt w (fun k => col k = c + 2) 88 2 (.slice qa qn qcap) qn qs
  len : qn = s.pending.length
  pend : PendC w col s.pending qs
def DiskAt (w : World) (T : TypeId) (col : Nat → Nat) (c b : Nat) (s : DS) : Prop := ∃ pa pcap qa qn qcap qs, DiskIn w T col c b s pa pcap qa qn qcap qs

/-- the colours of the disk c -/
def inC (col : Nat → Nat) (c : Nat) (k : Nat) : Prop := c ≤ col k ∧ col k ≤ c + 2
/-- colours are given to new blocks alone -/
def Ext (n : Nat) (col col' : Nat → Nat) : Prop := ∀ k, k < n → col' k = col k
theorem Ext.refl (n : Nat) (col : Nat → Nat) : Ext n col col := fun _ _ => rfl
theorem Ext.trans {n m : Nat} {a b c : Nat → Nat} (h : Ext n a b) (k : Ext m b c) (hm : n ≤ m) : Ext n a c := fun i hi => (k i (by omega)).trans (h i hi)

/-- a block that is not there yet has no colour -/
def Norm (w : World) (col : Nat → Nat) : Prop := ∀ k, w.heap.size ≤ k → col k = 0
theorem Norm.grow {w w' : World} {col : Nat → Nat} (h : Norm w col) (hs : w.heap.size ≤ w'.heap.size) : Norm w' col := fun k hk => h k (by omega)

theorem SlAt.shape {w : World} {own : Nat → Prop} {e : TypeId} {size : Nat} {v : Value} {n : Nat} {xs : List Value} (h : SlAt w own e size v n xs) : ∃ a cap, v = .slice a n cap := by
  obtain ⟨h1, h2⟩ := h
  rcases h2 with ⟨a, rfl, rfl⟩ | ⟨g, off, cap, cur, rfl, _⟩
  · exact ⟨a, 0, rfl⟩
  · exact ⟨_, cap, rfl⟩

theorem DiskIn.keep {w w' : World} {T : TypeId} {col col' : Nat → Nat} {c b : Nat} {s : DS} {pa : Option Addr} {pcap : Nat} {qa : Option Addr} {qn qcap : Nat} {qs : List Value} (h : DiskIn w T col c b s pa pcap qa qn qcap qs)
    (hk : ∀ k, k < w.heap.size → (col k = 1 ∨ inC col c k) → w'.heap[k]? = w.heap[k]?) (ho : Ext w.heap.size col col') (hs : w.heap.size ≤ w'.heap.size) : DiskIn w' T col' c b s pa pcap qa qn qcap qs := by
  have hb := lt_of_block h.block
  have hc : inC col c b := by unfold inC; have := h.color; omega
  refine ⟨by rw [hk b hb (Or.inr hc)]; exact h.block, by rw [ho b hb]; exact h.color, ?_, ?_, h.len, ?_⟩
  · exact h.plat.keep (fun k hk' e => hk k hk' (Or.inr (by unfold inC; omega))) (fun k hk' e => by rw [ho k hk']; exact e)
  · exact h.list.keep (fun k hk' e => hk k hk' (Or.inr (by unfold inC; omega))) (fun k hk' e => by rw [ho k hk']; exact e)
  · exact PendC.keep (fun k hk' e => hk k hk' (Or.inl e)) ho hs h.pend
theorem DiskAt.keep {w w' : World} {T : TypeId} {col col' : Nat → Nat} {c b : Nat} {s : DS} (h : DiskAt w T col c b s)
    (hk : ∀ k, k < w.heap.size → (col k = 1 ∨ inC col c k) → w'.heap[k]? = w.heap[k]?) (ho : Ext w.heap.size col col') (hs : w.heap.size ≤ w'.heap.size) : DiskAt w' T col' c b s := by
  obtain ⟨pa, pcap, qa, qn, qcap, qs, h⟩ := h
  exact ⟨pa, pcap, qa, qn, qcap, qs, h.keep hk ho hs⟩
/-- another disk's doings leave it -/
theorem DiskAt.apart {w w' : World} {T : TypeId} {col col' : Nat → Nat} {c d b : Nat} {s : DS} (h : DiskAt w T col c b s)
    (hc : Chg (inC col d) w w') (ho : Ext w.heap.size col col') (hd : c + 2 < d ∨ d + 2 < c) (h1 : 1 < d) : DiskAt w' T col' c b s :=
  h.keep (fun k hk e => hc.block k hk (fun e' => by unfold inC at e e'; omega)) ho hc.size
theorem DiskAt.below {w w' : World} {T : TypeId} {col : Nat → Nat} {c b : Nat} {s : DS} (h : DiskAt w T col c b s)
    (hb : Below w.heap.size w w') : DiskAt w' T col c b s := h.keep (fun k hk _ => hb.block k hk) (Ext.refl _ _) hb.size
theorem DiskIn.below {w w' : World} {T : TypeId} {col : Nat → Nat} {c b : Nat} {s : DS} {pa : Option Addr} {pcap : Nat} {qa : Option Addr} {qn qcap : Nat} {qs : List Value} (h : DiskIn w T col c b s pa pcap qa qn qcap qs)
    (hb : Below w.heap.size w w') : DiskIn w' T col c b s pa pcap qa qn qcap qs := h.keep (fun k hk _ => hb.block k hk) (Ext.refl _ _) hb.size
theorem DiskIn.lt {w : World} {T : TypeId} {col : Nat → Nat} {c b : Nat} {s : DS} {pa : Option Addr} {pcap : Nat} {qa : Option Addr} {qn qcap : Nat} {qs : List Value} (h : DiskIn w T col c b s pa pcap qa qn qcap qs) : b < w.heap.size := lt_of_block h.block
theorem DiskAt.lt {w : World} {T : TypeId} {col : Nat → Nat} {c b : Nat} {s : DS} (h : DiskAt w T col c b s) : b < w.heap.size := by
  obtain ⟨pa, pcap, qa, qn, qcap, qs, h⟩ := h; exact h.lt

/-- the struct's own cells turn: what the lists are stays -/
theorem DiskIn.store {w : World} {T : TypeId} {col : Nat → Nat} {c b : Nat} {s : DS} {pa : Option Addr} {pcap : Nat} {qa : Option Addr} {qn qcap : Nat} {qs : List Value} (h : DiskIn w T col c b s pa pcap qa qn qcap qs) (hc : 1 < c)
    (s' : DS) (i : Nat) (v : Value) (hcells : (dcells s (.slice pa s.platter.length pcap) (.slice qa qn qcap)).setIfInBounds i v = dcells s' (.slice pa s'.platter.length pcap) (.slice qa qn qcap))
    (hp : s'.platter = s.platter) (hq : s'.pending = s.pending) : DiskIn (w.setCell ⟨b, i, none⟩ v) T col c b s' pa pcap qa qn qcap qs := by
  have hcol := h.color
  have hk : ∀ k, k < w.heap.size → k ≠ b → (w.setCell ⟨b, i, none⟩ v).heap[k]? = w.heap[k]? := fun k _ hn => Below.heap_setCell _ _ _ _ hn
  refine ⟨by rw [block_set h.block, hcells], hcol, ?_, ?_, by rw [hq]; exact h.len, ?_⟩
  · rw [hp]
    exact h.plat.keep (fun k hk' e => hk k hk' (fun e' => by subst e'; omega)) (fun k hk' e => e)
  · exact h.list.keep (fun k hk' e => hk k hk' (fun e' => by subst e'; omega)) (fun k hk' e => e)
  · rw [hq]
    exact PendC.keep (fun k hk' e => hk k hk' (fun e' => by subst e'; omega)) (Ext.refl _ _) (by simp) h.pend
theorem DiskIn.at {w : World} {T : TypeId} {col : Nat → Nat} {c b : Nat} {s : DS} {pa : Option Addr} {pcap : Nat} {qa : Option Addr} {qn qcap : Nat} {qs : List Value} (h : DiskIn w T col c b s pa pcap qa qn qcap qs) : DiskAt w T col c b s := ⟨pa, pcap, qa, qn, qcap, qs, h⟩
section
variable {w : World} {T : TypeId} {col : Nat → Nat} {c b : Nat} {s : DS} {pa : Option Addr} {pcap : Nat} {qa : Option Addr} {qn qcap : Nat} {qs : List Value} (h : DiskIn w T col c b s pa pcap qa qn qcap qs)
include h
theorem DiskIn.size : w.cell? ⟨b, 0, none⟩ = some (.int .i64 s.size) := by rw [cell_of_block h.block]; rfl
theorem DiskIn.count : w.cell? ⟨b, 1, none⟩ = some (.int .i64 s.count) := by rw [cell_of_block h.block]; rfl
theorem DiskIn.platter : w.cell? ⟨b, 2, none⟩ = some (.slice pa s.platter.length pcap) := by rw [cell_of_block h.block]; rfl
theorem DiskIn.pending : w.cell? ⟨b, 3, none⟩ = some (.slice qa qn qcap) := by rw [cell_of_block h.block]; rfl
theorem DiskIn.reads : w.cell? ⟨b, 4, none⟩ = some (.int .i64 s.reads) := by rw [cell_of_block h.block]; rfl
theorem DiskIn.writes : w.cell? ⟨b, 5, none⟩ = some (.int .i64 s.writes) := by rw [cell_of_block h.block]; rfl
theorem DiskIn.flushes : w.cell? ⟨b, 6, none⟩ = some (.int .i64 s.flushes) := by rw [cell_of_block h.block]; rfl
theorem DiskIn.stops : w.cell? ⟨b, 7, none⟩ = some (.bool s.stops) := by rw [cell_of_block h.block]; rfl
theorem DiskIn.left : w.cell? ⟨b, 8, none⟩ = some (.int .i64 s.left) := by rw [cell_of_block h.block]; rfl
theorem DiskIn.free (i : Nat) : w.frozen? ⟨b, i, none⟩ = false := free_of_block h.block i
end
end Go.Proofs.Ytjjgihaikcnjgaa
