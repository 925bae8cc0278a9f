/-
  Split: what it tells; small lemmas.
-/
import Derived.Test.YthmimbmlcihkaaaGreatNCopied
namespace Go.Proofs.YthmimbmlcihkaaaGreat
open Go.RowKit
set_option linter.unusedSimpArgs false
set_option linter.unusedVariables false
set_option maxRecDepth 100000

def ND.empty : ND := ⟨false, [], [], []⟩
def ND.left (n : ND) (h : Nat) : ND := if n.leaf then ⟨true, n.keys.take h, n.values.take h, []⟩ else ⟨false, n.keys.take h, [], n.kids.take (h + 1)⟩
def ND.right (n : ND) (h : Nat) : ND := if n.leaf then ⟨true, n.keys.drop h, n.values.drop h, []⟩ else ⟨false, n.keys.drop (h + 1), [], n.kids.drop (h + 1)⟩
def ND.last (n : ND) : Nat := if n.leaf then n.keys.length - 1 else n.keys.length - 2
/-- what Split tells -/
inductive ND.SplitIs (n : ND) : ND → ByteArray → ND → Int → Prop
  | bad (h : n.check ≠ 0) : ND.SplitIs n .empty ⟨#[]⟩ .empty n.check
  | few (h : n.check = 0) (hl : n.last < 1) : ND.SplitIs n .empty ⟨#[]⟩ .empty 4
  | ok (h : n.check = 0) (k : Nat) (hk : n.Half n.last k) (hlt : k < n.keys.length) : ND.SplitIs n (n.left k) n.keys[k] (n.right k) 0
def SplitTells (w : World) (n : ND) (e : Ending) (w' : World) : Prop :=
  ∃ l key r er nl nr, e = .returned (.tuple #[l, .string key, r, .int .i64 er]) ∧ NodeAt w' (fun k => w.heap.size ≤ k) l nl ∧ NodeAt w' (fun k => w.heap.size ≤ k) r nr ∧ n.SplitIs nl key nr er

theorem NodeAt.empty (w : World) (own : Nat → Prop) : NodeAt w own (.agg #[.bool false, .slice none 0 0, .slice none 0 0, .slice none 0 0]) .empty :=
  ⟨none, 0, none, 0, none, 0, rfl, (SlAt.nil w own 9 1 none).rd, (SlAt.nil w own 9 1 none).rd, (SlAt.nil w own 3 1 none).rd⟩

theorem cells4 {W : World} {b : Nat} {v0 v1 v2 v3 : Value} (h : W.heap[b]? = some (.cells #[v0, v1, v2, v3] 61 (0, 0))) :
    W.cell? ⟨b, 0, none⟩ = some v0 ∧ W.cell? ⟨b, 1, none⟩ = some v1 ∧ W.cell? ⟨b, 2, none⟩ = some v2 ∧ W.cell? ⟨b, 3, none⟩ = some v3 ∧
    W.frozen? ⟨b, 0, none⟩ = false ∧ W.frozen? ⟨b, 1, none⟩ = false ∧ W.frozen? ⟨b, 2, none⟩ = false ∧ W.frozen? ⟨b, 3, none⟩ = false :=
  ⟨(cell_of_block h 0).trans rfl, (cell_of_block h 1).trans rfl, (cell_of_block h 2).trans rfl, (cell_of_block h 3).trans rfl, free_of_block h 0, free_of_block h 1, free_of_block h 2, free_of_block h 3⟩
def zcells : Array Value := #[.bool false, .slice none 0 0, .slice none 0 0, .slice none 0 0]
/-- the frame of Split: the argument's box and three nodes behind it -/
structure Fr (w W : World) (n : ND) (lf : Bool) (ka : Option Addr) (kc : Nat) (va : Option Addr) (vc : Nat) (ia : Option Addr) (ic : Nat) (c1 c2 : Array Value) : Prop where
  bl : Bl w W
  box : W.heap[w.heap.size]? = some (.cells #[.bool lf, .slice ka n.keys.length kc, .slice va n.values.length vc, .slice ia n.kids.length ic] 61 (0, 0))
  one : W.heap[w.heap.size + 1]? = some (.cells c1 61 (0, 0))
  two : W.heap[w.heap.size + 1 + 1]? = some (.cells c2 61 (0, 0))
  three : W.heap[w.heap.size + 1 + 1 + 1]? = some (.cells zcells 61 (0, 0))
theorem block_new' {w : World} {k : Nat} (o : Obj) (h : k = w.heap.size) : (w.alloc o).heap[k]? = some o := by subst h; exact block_new _ _
theorem Fr.start (w : World) (n : ND) (lf : Bool) (ka : Option Addr) (kc : Nat) (va : Option Addr) (vc : Nat) (ia : Option Addr) (ic : Nat) :
    Fr w ((((w.alloc (.cells #[.bool lf, .slice ka n.keys.length kc, .slice va n.values.length vc, .slice ia n.kids.length ic] 61)).alloc (.cells #[.bool false, .slice none 0 0, .slice none 0 0, .slice none 0 0] 61)).alloc (.cells #[.bool false, .slice none 0 0, .slice none 0 0, .slice none 0 0] 61)).alloc (.cells #[.bool false, .slice none 0 0, .slice none 0 0, .slice none 0 0] 61)) n lf ka kc va vc ia ic zcells zcells :=
  ⟨((((Bl.refl w).alloc _).alloc _).alloc _).alloc _, block_old _ (block_old _ (block_old _ (block_new _ _))),
   block_old _ (block_old _ (block_new' _ (by simp))), block_old _ (block_new' _ (by simp)), block_new' _ (by simp)⟩
theorem Fr.keep {w W W' : World} {n : ND} {lf : Bool} {ka : Option Addr} {kc : Nat} {va : Option Addr} {vc : Nat} {ia : Option Addr} {ic : Nat} {c1 c2 : Array Value} (h : Fr w W n lf ka kc va vc ia ic c1 c2) (k : Bl W W') : Fr w W' n lf ka kc va vc ia ic c1 c2 :=
  ⟨h.bl.trans k, below_keeps k h.box (lt_of_block h.box), below_keeps k h.one (lt_of_block h.one), below_keeps k h.two (lt_of_block h.two), below_keeps k h.three (lt_of_block h.three)⟩

theorem chg8 {a b : World} (k : Bl a b) (B C : Nat) (u0 u1 u2 u3 v0 v1 v2 v3 : Value) : Chg (fun i => i = B ∨ i = C) a ((((((((b.setCell ⟨B, 0, none⟩ u0).setCell ⟨B, 1, none⟩ u1).setCell ⟨B, 2, none⟩ u2).setCell ⟨B, 3, none⟩ u3).setCell ⟨C, 0, none⟩ v0).setCell ⟨C, 1, none⟩ v1).setCell ⟨C, 2, none⟩ v2).setCell ⟨C, 3, none⟩ v3) :=
  (((((chg4 k B u0 u1 u2 u3).mono (own2 := fun i => i = B ∨ i = C) (fun _ _ e => Or.inl e)).setCell ⟨C, 0, none⟩ v0 (fun _ => Or.inr rfl)).setCell ⟨C, 1, none⟩ v1 (fun _ => Or.inr rfl)).setCell ⟨C, 2, none⟩ v2 (fun _ => Or.inr rfl)).setCell ⟨C, 3, none⟩ v3 (fun _ => Or.inr rfl)
theorem NodeIn.chg {w w' : World} {own own2 : Nat → Prop} {n : ND} {ka : Option Addr} {kc : Nat} {va : Option Addr} {vc : Nat} {ia : Option Addr} {ic : Nat} (h : NodeIn w own n ka kc va vc ia ic) (k : Chg own2 w w') (hd : ∀ k, own k → ¬ own2 k) : NodeIn w' own n ka kc va vc ia ic :=
  ⟨RdAt.chg h.keys k hd, RdAt.chg h.values k hd, RdAt.chg h.kids k hd⟩
theorem NodeIn.mono {w : World} {own own2 : Nat → Prop} {n : ND} {ka : Option Addr} {kc : Nat} {va : Option Addr} {vc : Nat} {ia : Option Addr} {ic : Nat} (h : NodeIn w own n ka kc va vc ia ic) (ho : ∀ k, k < w.heap.size → own k → own2 k) : NodeIn w own2 n ka kc va vc ia ic :=
  ⟨RdAt.mono h.keys ho, RdAt.mono h.values ho, RdAt.mono h.kids ho⟩

theorem ND.check_zero {n : ND} (h : n.check = 0) : n.lens = true ∧ n.shape = true ∧ (n.leaf = true ∨ n.keys.length ≠ 0) := by
  unfold ND.check at h
  split at h
  · split at h
    · rename_i a b; exact ⟨a, b⟩
    · exact absurd h (by decide)
  · exact absurd h (by decide)
theorem ND.shape_form {n : ND} (h : n.shape = true) : n.form = true := by
  simp only [ND.shape, Bool.and_eq_true] at h
  exact h.1.1
theorem ND.form_leaf {n : ND} (h : n.form = true) (hf : n.leaf = true) : n.values.length = n.keys.length ∧ n.kids.length = 0 := by
  simpa [ND.form, hf] using h
theorem ND.form_inner {n : ND} (h : n.form = true) (hf : n.leaf = false) : n.kids.length = n.keys.length + 1 ∧ n.values.length = 0 := by
  simpa [ND.form, hf] using h
theorem tcells_take (l : List ByteArray) (k : Nat) : (tcells l).take (k * 1) = tcells (l.take k) := by simp [tcells, List.map_take]
theorem tcells_drop (l : List ByteArray) (k : Nat) : (tcells l).drop (k * 1) = tcells (l.drop k) := by simp [tcells, List.map_drop]
theorem icells_take (l : List Int) (k : Nat) : (icells l).take (k * 1) = icells (l.take k) := by simp [icells, List.map_take]
theorem icells_drop (l : List Int) (k : Nat) : (icells l).drop (k * 1) = icells (l.drop k) := by simp [icells, List.map_drop]
theorem copied_lit (w : World) (own : Nat → Prop) (lf : Bool) (K V : List ByteArray) (I : List Int) (ka : Option Addr) (kc : Nat) (va : Option Addr) (vc : Nat) (ia : Option Addr) (ic : Nat) (a b c : Nat) (ha : K.length = a) (hb : V.length = b) (hc : I.length = c)
    (hk : RdAt w own 1 (.slice ka a kc) a (tcells K)) (hv : RdAt w own 1 (.slice va b vc) b (tcells V)) (hi : RdAt w own 1 (.slice ia c ic) c (icells I)) (sa : a ≤ 8796093022208) (sb : b ≤ 8796093022208) (sc : c ≤ 17592186044416) :
    Calls Tryz.prog 52 #[.agg #[.bool lf, .slice ka a kc, .slice va b vc, .slice ia c ic]] w fun e w' =>
      (∃ ka' kc' va' vc' ia' ic', e = .returned (.agg #[.bool lf, .slice ka' a kc', .slice va' b vc', .slice ia' c ic']) ∧ NodeIn w' (fun k => w.heap.size ≤ k) ⟨lf, K, V, I⟩ ka' kc' va' vc' ia' ic') ∧ Bl w w' := by
  subst ha hb hc
  refine (copied_any w own _ ⟨lf, K, V, I⟩ ⟨ka, kc, va, vc, ia, ic, rfl, hk, hv, hi⟩ ⟨sa, sb, sc⟩).mono ?_
  rintro e w' ⟨⟨v, rfl, ka', kc', va', vc', ia', ic', rfl, q⟩, k⟩
  exact ⟨⟨ka', kc', va', vc', ia', ic', rfl, q⟩, k⟩
theorem Fr.set1 {w W : World} {n : ND} {lf : Bool} {ka : Option Addr} {kc : Nat} {va : Option Addr} {vc : Nat} {ia : Option Addr} {ic : Nat} {p0 p1 p2 p3 : Value} {c2 : Array Value} (h : Fr w W n lf ka kc va vc ia ic #[p0, p1, p2, p3] c2) (u0 u1 u2 u3 : Value) :
    Fr w ((((W.setCell ⟨w.heap.size + 1, 0, none⟩ u0).setCell ⟨w.heap.size + 1, 1, none⟩ u1).setCell ⟨w.heap.size + 1, 2, none⟩ u2).setCell ⟨w.heap.size + 1, 3, none⟩ u3) n lf ka kc va vc ia ic #[u0, u1, u2, u3] c2 := by
  have hc := chg4 (Bl.refl W) (w.heap.size + 1) u0 u1 u2 u3
  exact ⟨Below.trans h.bl (hc.below h.bl.size (fun i hi e => by omega)), hc.keeps h.box (by omega), (block_set (block_set (block_set (block_set h.one 0 u0) 1 u1) 2 u2) 3 u3).trans rfl, hc.keeps h.two (by omega), hc.keeps h.three (by omega)⟩
theorem Fr.set2 {w W : World} {n : ND} {lf : Bool} {ka : Option Addr} {kc : Nat} {va : Option Addr} {vc : Nat} {ia : Option Addr} {ic : Nat} {p0 p1 p2 p3 : Value} {c1 : Array Value} (h : Fr w W n lf ka kc va vc ia ic c1 #[p0, p1, p2, p3]) (u0 u1 u2 u3 : Value) :
    Fr w ((((W.setCell ⟨w.heap.size + 1 + 1, 0, none⟩ u0).setCell ⟨w.heap.size + 1 + 1, 1, none⟩ u1).setCell ⟨w.heap.size + 1 + 1, 2, none⟩ u2).setCell ⟨w.heap.size + 1 + 1, 3, none⟩ u3) n lf ka kc va vc ia ic c1 #[u0, u1, u2, u3] := by
  have hc := chg4 (Bl.refl W) (w.heap.size + 1 + 1) u0 u1 u2 u3
  exact ⟨Below.trans h.bl (hc.below h.bl.size (fun i hi e => by omega)), hc.keeps h.box (by omega), hc.keeps h.one (by omega), (block_set (block_set (block_set (block_set h.two 0 u0) 1 u1) 2 u2) 3 u3).trans rfl, hc.keeps h.three (by omega)⟩
theorem NodeIn.bl {w w' : World} {own : Nat → Prop} {n : ND} {ka : Option Addr} {kc : Nat} {va : Option Addr} {vc : Nat} {ia : Option Addr} {ic : Nat} (h : NodeIn w own n ka kc va vc ia ic) (k : Bl w w') : NodeIn w' own n ka kc va vc ia ic := h.below k
end Go.Proofs.YthmimbmlcihkaaaGreat
