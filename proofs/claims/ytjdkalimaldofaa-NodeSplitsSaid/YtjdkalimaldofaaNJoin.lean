/-
  Join: the program's, where it succeeds.
-/
import Derived.Test.YtjdkalimaldofaaNSplitA
import Derived.Deep.Cut
namespace Go.Proofs.Ytjdkalimaldofaa
open Go.RowKit
set_option linter.unusedSimpArgs false
set_option linter.unusedVariables false

def ND.join (l : ND) (key : ByteArray) (r : ND) : ND := ⟨l.leaf, (if l.leaf then l.keys else l.keys ++ [key]) ++ r.keys, l.values ++ r.values, l.kids ++ r.kids⟩
structure Jn (w W : World) (D : Nat) (nr : ND) (rf lf : Bool) (rka : Option Addr) (rkc : Nat) (rva : Option Addr) (rvc : Nat) (ria : Option Addr) (ric : Nat) (K V I : Nat → Prop) (KS VS : List ByteArray) (IS : List Int) (a b c : Nat)
    (ka : Option Addr) (kc : Nat) (va : Option Addr) (vc : Nat) (ia : Option Addr) (ic : Nat) : Prop where
  bl : Bl w W
  kn : ∀ j, K j → w.heap.size + 3 ≤ j ∧ j ≠ D ∧ j < W.heap.size
  vn : ∀ j, V j → w.heap.size + 3 ≤ j ∧ j ≠ D ∧ j < W.heap.size
  iN : ∀ j, I j → w.heap.size + 3 ≤ j ∧ j ≠ D ∧ j < W.heap.size
  kv : ∀ j, K j → ¬ V j
  ki : ∀ j, K j → ¬ I j
  vi : ∀ j, V j → ¬ I j
  d : w.heap.size + 3 ≤ D
  box : W.heap[w.heap.size + 1]? = some (.cells #[.bool rf, .slice rka nr.keys.length rkc, .slice rva nr.values.length rvc, .slice ria nr.kids.length ric] 25 (0, 0))
  six : W.heap[w.heap.size + 1 + 1]? = some (.cells #[.bool false, .slice none 0 0, .slice none 0 0, .slice none 0 0] 25 (0, 0))
  out : W.heap[D]? = some (.cells #[.bool lf, .slice ka a kc, .slice va b vc, .slice ia c ic] 25 (0, 0))
  keys : SlAt W K 9 1 (.slice ka a kc) a (tcells KS)
  values : SlAt W V 9 1 (.slice va b vc) b (tcells VS)
  kids : SlAt W I 3 1 (.slice ia c ic) c (icells IS)
  right : NodeIn W (fun k => k < w.heap.size) nr rka rkc rva rvc ria ric
theorem tcells_append (a b : List ByteArray) : tcells (a ++ b) = tcells a ++ tcells b := by simp [tcells]
theorem icells_append (a b : List Int) : icells (a ++ b) = icells a ++ icells b := by simp [icells]
theorem copied_sl_lit (w : World) (own : Nat → Prop) (v : Value) (n : ND) (lf : Bool) (hf : n.leaf = lf) (hv : NodeAt w own v n) (sm : n.Small) :
    Calls Try.prog 33 #[v] w fun e w' => (∃ ka kc va vc ia ic K V I, e = .returned (.agg #[.bool lf, .slice ka n.keys.length kc, .slice va n.values.length vc, .slice ia n.kids.length ic]) ∧ NodeSl w' K V I n ka kc va vc ia ic ∧ Apart3 w.heap.size K V I ∧ ∀ j, K j ∨ V j ∨ I j → j < w'.heap.size) ∧ Bl w w' := by
  subst hf
  exact copied_sl w own v n hv sm
theorem Jn.keys' {w W : World} {D : Nat} {nr : ND} {rf lf : Bool} {rka : Option Addr} {rkc : Nat} {rva : Option Addr} {rvc : Nat} {ria : Option Addr} {ric : Nat} {K V I : Nat → Prop} {KS VS : List ByteArray} {IS : List Int} {a b c : Nat} {ka : Option Addr} {kc : Nat} {va : Option Addr} {vc : Nat} {ia : Option Addr} {ic : Nat} (J : Jn w W D nr rf lf rka rkc rva rvc ria ric K V I KS VS IS a b c ka kc va vc ia ic) {w8 : World} {x : Option Addr} {xc m : Nat} {XS : List ByteArray}
    (hs : SlAt w8 (fun k => K k ∨ k = W.heap.size) 9 1 (.slice x m xc) m (tcells XS)) (hc : Chg K W w8) :
    Jn w (w8.setCell ⟨D, 1, none⟩ (.slice x m xc)) D nr rf lf rka rkc rva rvc ria ric (fun k => (K k ∨ k = W.heap.size) ∧ k < w8.heap.size) V I XS VS IS m b c x xc va vc ia ic := by
  have hz := hc.size
  have hlD := lt_of_block J.out
  have hb := J.bl.size
  have nD : ¬ K D := fun e => (J.kn D e).2.1 rfl
  have nB : ∀ j, j < w.heap.size + 3 → ¬ K j := fun j hj e => by have := (J.kn j e).1; omega
  have hset : Chg (fun i => i = D) w8 (w8.setCell ⟨D, 1, none⟩ (.slice x m xc)) := (Chg.refl _ _).setCell _ _ (fun _ => rfl)
  have hd := J.d
  have f1 := lt_of_block (hc.keeps J.box (nB _ (by omega)))
  have f2 := lt_of_block (hc.keeps J.six (nB _ (by omega)))
  have bD := hc.keeps J.out nD
  exact ⟨Below.trans J.bl (Below.trans (hc.below hb (fun i hi e => by have := (J.kn i e).1; omega)) (hset.below (by omega) (fun i hi e => by omega))),
    fun j e => by have := e.2; rcases e.1 with e1 | e1; (have := J.kn j e1; simp only [World.size_setCell]; omega); (simp only [World.size_setCell]; omega),
    fun j e => by have := J.vn j e; simp only [World.size_setCell]; omega,
    fun j e => by have := J.iN j e; simp only [World.size_setCell]; omega,
    fun j e f => by rcases e.1 with e1 | e1; exact J.kv j e1 f; (have := (J.vn j f).2.2; omega),
    fun j e f => by rcases e.1 with e1 | e1; exact J.ki j e1 f; (have := (J.iN j f).2.2; omega),
    J.vi,
    J.d,
    hset.keeps (hc.keeps J.box (nB _ (by omega))) (by omega),
    hset.keeps (hc.keeps J.six (nB _ (by omega))) (by omega),
    (block_set bD 1 _).trans rfl,
    (hs.mono (fun j hj e => ⟨e, hj⟩)).chg hset (fun j e => by rcases e.1 with e1 | e1; exact (J.kn j e1).2.1; omega),
    (J.values.chg hc (fun j e f => J.kv j f e)).chg hset (fun j e => (J.vn j e).2.1),
    (J.kids.chg hc (fun j e f => J.ki j f e)).chg hset (fun j e => (J.iN j e).2.1),
    (J.right.chg hc (fun k hk e => nB k (by omega) e)).chg hset (fun k hk e => by omega)⟩
theorem Jn.keys2' {w W : World} {D : Nat} {nr : ND} {rf lf : Bool} {rka : Option Addr} {rkc : Nat} {rva : Option Addr} {rvc : Nat} {ria : Option Addr} {ric : Nat} {K V I : Nat → Prop} {KS VS : List ByteArray} {IS : List Int} {a b c : Nat} {ka : Option Addr} {kc : Nat} {va : Option Addr} {vc : Nat} {ia : Option Addr} {ic : Nat} (J : Jn w W D nr rf lf rka rkc rva rvc ria ric K V I KS VS IS a b c ka kc va vc ia ic) {w8 : World} {x : Option Addr} {xc m : Nat} {XS : List ByteArray}
    (hs : SlAt w8 (fun k => K k ∨ k = W.heap.size + 1) 9 1 (.slice x m xc) m (tcells XS)) (hc : Chg K W w8) :
    Jn w (w8.setCell ⟨D, 1, none⟩ (.slice x m xc)) D nr rf lf rka rkc rva rvc ria ric (fun k => (K k ∨ k = W.heap.size + 1) ∧ k < w8.heap.size) V I XS VS IS m b c x xc va vc ia ic := by
  have hz := hc.size
  have hlD := lt_of_block J.out
  have hb := J.bl.size
  have nD : ¬ K D := fun e => (J.kn D e).2.1 rfl
  have nB : ∀ j, j < w.heap.size + 3 → ¬ K j := fun j hj e => by have := (J.kn j e).1; omega
  have hset : Chg (fun i => i = D) w8 (w8.setCell ⟨D, 1, none⟩ (.slice x m xc)) := (Chg.refl _ _).setCell _ _ (fun _ => rfl)
  have hd := J.d
  have f1 := lt_of_block (hc.keeps J.box (nB _ (by omega)))
  have f2 := lt_of_block (hc.keeps J.six (nB _ (by omega)))
  have bD := hc.keeps J.out nD
  exact ⟨Below.trans J.bl (Below.trans (hc.below hb (fun i hi e => by have := (J.kn i e).1; omega)) (hset.below (by omega) (fun i hi e => by omega))),
    fun j e => by have := e.2; rcases e.1 with e1 | e1; (have := J.kn j e1; simp only [World.size_setCell]; omega); (simp only [World.size_setCell]; omega),
    fun j e => by have := J.vn j e; simp only [World.size_setCell]; omega,
    fun j e => by have := J.iN j e; simp only [World.size_setCell]; omega,
    fun j e f => by rcases e.1 with e1 | e1; exact J.kv j e1 f; (have := (J.vn j f).2.2; omega),
    fun j e f => by rcases e.1 with e1 | e1; exact J.ki j e1 f; (have := (J.iN j f).2.2; omega),
    J.vi,
    J.d,
    hset.keeps (hc.keeps J.box (nB _ (by omega))) (by omega),
    hset.keeps (hc.keeps J.six (nB _ (by omega))) (by omega),
    (block_set bD 1 _).trans rfl,
    (hs.mono (fun j hj e => ⟨e, hj⟩)).chg hset (fun j e => by rcases e.1 with e1 | e1; exact (J.kn j e1).2.1; omega),
    (J.values.chg hc (fun j e f => J.kv j f e)).chg hset (fun j e => (J.vn j e).2.1),
    (J.kids.chg hc (fun j e f => J.ki j f e)).chg hset (fun j e => (J.iN j e).2.1),
    (J.right.chg hc (fun k hk e => nB k (by omega) e)).chg hset (fun k hk e => by omega)⟩
theorem Jn.values' {w W : World} {D : Nat} {nr : ND} {rf lf : Bool} {rka : Option Addr} {rkc : Nat} {rva : Option Addr} {rvc : Nat} {ria : Option Addr} {ric : Nat} {K V I : Nat → Prop} {KS VS : List ByteArray} {IS : List Int} {a b c : Nat} {ka : Option Addr} {kc : Nat} {va : Option Addr} {vc : Nat} {ia : Option Addr} {ic : Nat} (J : Jn w W D nr rf lf rka rkc rva rvc ria ric K V I KS VS IS a b c ka kc va vc ia ic) {w8 : World} {x : Option Addr} {xc m : Nat} {XS : List ByteArray}
    (hs : SlAt w8 (fun k => V k ∨ k = W.heap.size) 9 1 (.slice x m xc) m (tcells XS)) (hc : Chg V W w8) :
    Jn w (w8.setCell ⟨D, 2, none⟩ (.slice x m xc)) D nr rf lf rka rkc rva rvc ria ric K (fun k => (V k ∨ k = W.heap.size) ∧ k < w8.heap.size) I KS XS IS a m c ka kc x xc ia ic := by
  have hz := hc.size
  have hlD := lt_of_block J.out
  have hb := J.bl.size
  have nD : ¬ V D := fun e => (J.vn D e).2.1 rfl
  have nB : ∀ j, j < w.heap.size + 3 → ¬ V j := fun j hj e => by have := (J.vn j e).1; omega
  have hset : Chg (fun i => i = D) w8 (w8.setCell ⟨D, 2, none⟩ (.slice x m xc)) := (Chg.refl _ _).setCell _ _ (fun _ => rfl)
  have hd := J.d
  have f1 := lt_of_block (hc.keeps J.box (nB _ (by omega)))
  have f2 := lt_of_block (hc.keeps J.six (nB _ (by omega)))
  have bD := hc.keeps J.out nD
  exact ⟨Below.trans J.bl (Below.trans (hc.below hb (fun i hi e => by have := (J.vn i e).1; omega)) (hset.below (by omega) (fun i hi e => by omega))),
    fun j e => by have := J.kn j e; simp only [World.size_setCell]; omega,
    fun j e => by have := e.2; rcases e.1 with e1 | e1; (have := J.vn j e1; simp only [World.size_setCell]; omega); (simp only [World.size_setCell]; omega),
    fun j e => by have := J.iN j e; simp only [World.size_setCell]; omega,
    fun j e f => by rcases f.1 with e1 | e1; exact J.kv j e e1; (have := (J.kn j e).2.2; omega),
    J.ki,
    fun j e f => by rcases e.1 with e1 | e1; exact J.vi j e1 f; (have := (J.iN j f).2.2; omega),
    J.d,
    hset.keeps (hc.keeps J.box (nB _ (by omega))) (by omega),
    hset.keeps (hc.keeps J.six (nB _ (by omega))) (by omega),
    (block_set bD 2 _).trans rfl,
    (J.keys.chg hc (fun j e f => J.kv j e f)).chg hset (fun j e => (J.kn j e).2.1),
    (hs.mono (fun j hj e => ⟨e, hj⟩)).chg hset (fun j e => by rcases e.1 with e1 | e1; exact (J.vn j e1).2.1; omega),
    (J.kids.chg hc (fun j e f => J.vi j f e)).chg hset (fun j e => (J.iN j e).2.1),
    (J.right.chg hc (fun k hk e => nB k (by omega) e)).chg hset (fun k hk e => by omega)⟩
theorem Jn.kids' {w W : World} {D : Nat} {nr : ND} {rf lf : Bool} {rka : Option Addr} {rkc : Nat} {rva : Option Addr} {rvc : Nat} {ria : Option Addr} {ric : Nat} {K V I : Nat → Prop} {KS VS : List ByteArray} {IS : List Int} {a b c : Nat} {ka : Option Addr} {kc : Nat} {va : Option Addr} {vc : Nat} {ia : Option Addr} {ic : Nat} (J : Jn w W D nr rf lf rka rkc rva rvc ria ric K V I KS VS IS a b c ka kc va vc ia ic) {w8 : World} {x : Option Addr} {xc m : Nat} {XS : List Int}
    (hs : SlAt w8 (fun k => I k ∨ k = W.heap.size) 3 1 (.slice x m xc) m (icells XS)) (hc : Chg I W w8) :
    Jn w (w8.setCell ⟨D, 3, none⟩ (.slice x m xc)) D nr rf lf rka rkc rva rvc ria ric K V (fun k => (I k ∨ k = W.heap.size) ∧ k < w8.heap.size) KS VS XS a b m ka kc va vc x xc := by
  have hz := hc.size
  have hlD := lt_of_block J.out
  have hb := J.bl.size
  have nD : ¬ I D := fun e => (J.iN D e).2.1 rfl
  have nB : ∀ j, j < w.heap.size + 3 → ¬ I j := fun j hj e => by have := (J.iN j e).1; omega
  have hset : Chg (fun i => i = D) w8 (w8.setCell ⟨D, 3, none⟩ (.slice x m xc)) := (Chg.refl _ _).setCell _ _ (fun _ => rfl)
  have hd := J.d
  have f1 := lt_of_block (hc.keeps J.box (nB _ (by omega)))
  have f2 := lt_of_block (hc.keeps J.six (nB _ (by omega)))
  have bD := hc.keeps J.out nD
  exact ⟨Below.trans J.bl (Below.trans (hc.below hb (fun i hi e => by have := (J.iN i e).1; omega)) (hset.below (by omega) (fun i hi e => by omega))),
    fun j e => by have := J.kn j e; simp only [World.size_setCell]; omega,
    fun j e => by have := J.vn j e; simp only [World.size_setCell]; omega,
    fun j e => by have := e.2; rcases e.1 with e1 | e1; (have := J.iN j e1; simp only [World.size_setCell]; omega); (simp only [World.size_setCell]; omega),
    J.kv,
    fun j e f => by rcases f.1 with e1 | e1; exact J.ki j e e1; (have := (J.kn j e).2.2; omega),
    fun j e f => by rcases f.1 with e1 | e1; exact J.vi j e e1; (have := (J.vn j e).2.2; omega),
    J.d,
    hset.keeps (hc.keeps J.box (nB _ (by omega))) (by omega),
    hset.keeps (hc.keeps J.six (nB _ (by omega))) (by omega),
    (block_set bD 3 _).trans rfl,
    (J.keys.chg hc (fun j e f => J.ki j e f)).chg hset (fun j e => (J.kn j e).2.1),
    (J.values.chg hc (fun j e f => J.vi j e f)).chg hset (fun j e => (J.vn j e).2.1),
    (hs.mono (fun j hj e => ⟨e, hj⟩)).chg hset (fun j e => by rcases e.1 with e1 | e1; exact (J.iN j e1).2.1; omega),
    (J.right.chg hc (fun k hk e => nB k (by omega) e)).chg hset (fun k hk e => by omega)⟩

set_option maxRecDepth 100000 in
set_option maxHeartbeats 4000000 in
theorem join_ok_true (w : World) (own own2 : Nat → Prop) (v u : Value) (l r : ND) (key : ByteArray) (hv : NodeAt w own v l) (hu : NodeAt w own2 u r) (sl : l.Small) (sr : r.Small) (ll : l.Lens) (lr : r.Lens) (hl : l.leaf = true) (hr : r.leaf = true)
    (pl : l.pcheck true = 0) (pr : r.pcheck true = 0) (hups : ups (l.join key r).keys = true) (sj : (l.join key r).Small) :
    Calls Try.prog 13 #[v, .string key, u] w fun e w' => (∃ x, e = .returned (.tuple #[x, .int .i64 0]) ∧ NodeAt w' (fun k => w.heap.size ≤ k) x (l.join key r)) ∧ Bl w w' := by
  have hu' : NodeAt w (fun k => k < w.heap.size) u r := by
    obtain ⟨a, b, c, d, e, f, rfl, h⟩ := hu
    exact ⟨a, b, c, d, e, f, rfl, h.mono (fun k hk _ => hk)⟩
  clear hu
  have hv' := hv
  obtain ⟨ka, kc, va, vc, ia, ic, rfl, h⟩ := hv
  have hu2 := hu'
  obtain ⟨rka, rkc, rva, rvc, ria, ric, rfl, h2⟩ := hu'
  obtain ⟨i9, hi9, hz0, hz1, hz2⟩ := info_parts info9
  obtain ⟨i3, hi3, jz0, jz1, jz2⟩ := info_parts info3
  obtain ⟨s1, s2, s3⟩ := sl
  obtain ⟨s4, s5, s6⟩ := sr
  have HLJ := Lib.hid hl
  obtain ⟨s7, s8, s9⟩ := sj
  rw [ND.join, hl] at s7 s8 s9
  simp only [if_true, List.length_append] at s7 s8 s9
  have sl' : l.Small := ⟨s1, s2, s3⟩
  have sr' : r.Small := ⟨s4, s5, s6⟩
  unfold nodeV
  unfold nodeV at hv' hu2
  rw [hl, hr]
  rw [hl] at hv'
  rw [hr] at hu2
  have HL := Lib.hid hl
  have HR := Lib.hid hr
  clear hl hr
  have HP := Lib.hid (And.intro pl pr)
  clear pl pr
  have HU := Lib.hid hups
  clear hups
  have kB : Bl w (((w.alloc (.cells #[.bool true, .slice ka l.keys.length kc, .slice va l.values.length vc, .slice ia l.kids.length ic] 25)).alloc (.cells #[.bool true, .slice rka r.keys.length rkc, .slice rva r.values.length rvc, .slice ria r.kids.length ric] 25)).alloc (.cells #[.bool false, .slice none 0 0, .slice none 0 0, .slice none 0 0] 25)) := (((Bl.refl w).alloc _).alloc _).alloc _
  have b0 : (((w.alloc (.cells #[.bool true, .slice ka l.keys.length kc, .slice va l.values.length vc, .slice ia l.kids.length ic] 25)).alloc (.cells #[.bool true, .slice rka r.keys.length rkc, .slice rva r.values.length rvc, .slice ria r.kids.length ric] 25)).alloc (.cells #[.bool false, .slice none 0 0, .slice none 0 0, .slice none 0 0] 25)).heap[w.heap.size]? = some (.cells #[.bool true, .slice ka l.keys.length kc, .slice va l.values.length vc, .slice ia l.kids.length ic] 25 (0, 0)) := block_old _ (block_old _ (block_new _ _))
  have b1 : (((w.alloc (.cells #[.bool true, .slice ka l.keys.length kc, .slice va l.values.length vc, .slice ia l.kids.length ic] 25)).alloc (.cells #[.bool true, .slice rka r.keys.length rkc, .slice rva r.values.length rvc, .slice ria r.kids.length ric] 25)).alloc (.cells #[.bool false, .slice none 0 0, .slice none 0 0, .slice none 0 0] 25)).heap[w.heap.size + 1]? = some (.cells #[.bool true, .slice rka r.keys.length rkc, .slice rva r.values.length rvc, .slice ria r.kids.length ric] 25 (0, 0)) := block_old _ (block_new' _ (by simp))
  have b2 : (((w.alloc (.cells #[.bool true, .slice ka l.keys.length kc, .slice va l.values.length vc, .slice ia l.kids.length ic] 25)).alloc (.cells #[.bool true, .slice rka r.keys.length rkc, .slice rva r.values.length rvc, .slice ria r.kids.length ric] 25)).alloc (.cells #[.bool false, .slice none 0 0, .slice none 0 0, .slice none 0 0] 25)).heap[w.heap.size + 1 + 1]? = some (.cells #[.bool false, .slice none 0 0, .slice none 0 0, .slice none 0 0] 25 (0, 0)) := block_new' _ (by simp)
  go_enter Try.func13, Try.ntmps13
  go_upto_region 1 with fail
  generalize ((w.alloc (.cells #[.bool true, .slice ka l.keys.length kc, .slice va l.values.length vc, .slice ia l.kids.length ic] 25)).alloc (.cells #[.bool true, .slice rka r.keys.length rkc, .slice rva r.values.length rvc, .slice ria r.kids.length ric] 25)).alloc (.cells #[.bool false, .slice none 0 0, .slice none 0 0, .slice none 0 0] 25) = W3 at *
  have l0 := lt_of_block b0
  have l1 := lt_of_block b1
  have l2 := lt_of_block b2
  obtain ⟨x0, x1, x2, x3, -, -, -, -⟩ := cells4 b0
  obtain ⟨y0, y1, y2, y3, -, -, -, -⟩ := cells4 b1
  go_upto_region 8 with (first
    | (go_at_call 35; (have kq := k4); clear kq; refine (pcheck_any _ _ _ r true (hu2.bl (kB.trans k4)) sr' lr).mono ?_; rw [HP.out.2]; rintro e w5 ⟨rfl, k5⟩; (have b05 := below_keeps k5 b04 m0); (have b15 := below_keeps k5 b14 m1); (have b25 := below_keeps k5 b24 m2); (have n0 := lt_of_block b05); (have n1 := lt_of_block b15); (have n2 := lt_of_block b25); obtain ⟨x05, x15, x25, x35, -, -, -, -⟩ := cells4 b05)
    | (go_at_call 35; refine (pcheck_any _ _ _ l true (hv'.bl kB) sl' ll).mono ?_; rw [HP.out.1]; rintro e w4 ⟨rfl, k4⟩; (have b04 := below_keeps k4 b0 l0); (have b14 := below_keeps k4 b1 l1); (have b24 := below_keeps k4 b2 l2); (have m0 := lt_of_block b04); (have m1 := lt_of_block b14); (have m2 := lt_of_block b24); obtain ⟨x04, x14, x24, x34, -, -, -, -⟩ := cells4 b04; obtain ⟨y04, y14, y24, y34, -, -, -, -⟩ := cells4 b14)
    | (go_at_call 33; refine (copied_sl_lit _ own _ l true HL.out (hv'.bl ((kB.trans k4).trans k5)) sl').mono ?_; rintro e w6 ⟨⟨ka6, kc6, va6, vc6, ia6, ic6, K, V, I, rfl, q6, ap6, cp6⟩, k6⟩; (have b06 := below_keeps k6 b05 n0); (have b16 := below_keeps k6 b15 n1); (have b26 := below_keeps k6 b25 n2); (have p0 := lt_of_block b06); (have p1 := lt_of_block b16); (have p2 := lt_of_block b26); obtain ⟨x06, x16, x26, x36, -, -, -, -⟩ := cells4 b06; obtain ⟨y06, y16, y26, y36, -, -, -, -⟩ := cells4 b16))
  have J0 : Jn w (w6.alloc (.cells #[.bool true, .slice ka6 l.keys.length kc6, .slice va6 l.values.length vc6, .slice ia6 l.kids.length ic6] 25)) w6.heap.size r true true rka rkc rva rvc ria ric K V I l.keys l.values l.kids l.keys.length l.values.length l.kids.length ka6 kc6 va6 vc6 ia6 ic6 := by
    have kA : Bl w6 (w6.alloc (.cells #[.bool true, .slice ka6 l.keys.length kc6, .slice va6 l.values.length vc6, .slice ia6 l.kids.length ic6] 25)) := (Bl.refl _).alloc _
    exact ⟨(((kB.trans k4).trans k5).trans k6).alloc _,
      fun j e => by have e1 := ap6.k j e; have e2 := cp6 j (.inl e); simp only [World.size_alloc]; omega,
      fun j e => by have e1 := ap6.v j e; have e2 := cp6 j (.inr (.inl e)); simp only [World.size_alloc]; omega,
      fun j e => by have e1 := ap6.i j e; have e2 := cp6 j (.inr (.inr e)); simp only [World.size_alloc]; omega,
      ap6.kv, ap6.ki, ap6.vi, by omega, block_old _ b16, block_old _ b26, block_new _ _, q6.keys.below kA, q6.values.below kA, q6.kids.below kA,
      h2.below ((((kB.trans k4).trans k5).trans k6).alloc _)⟩
  clear x0 x1 x2 x3 y0 y1 y2 y3 x04 x14 x24 x34 y04 y14 y24 y34 x05 x15 x25 x35 x06 x16 x26 x36 y06 y16 y26 y36 b0 b1 b2 b04 b14 b24 b05 b15 b25 b06 b16 b26 l0 l1 l2 m0 m1 m2 n0 n1 n2 p0 p1 p2 q6 ap6 cp6 k4 k5 k6 kB h h2 hv' hu2 HP
  generalize w6.alloc (.cells #[.bool true, .slice ka6 l.keys.length kc6, .slice va6 l.values.length vc6, .slice ia6 l.kids.length ic6] 25) = W0 at *
  generalize w6.heap.size = D at *
  have ld_0 := lt_of_block J0.out
  have lb_0 := lt_of_block J0.box
  obtain ⟨e0_0, e1_0, e2_0, e3_0, g0_0, g1_0, g2_0, g3_0⟩ := cells4 J0.out
  obtain ⟨y0_0, y1_0, y2_0, y3_0, -, -, -, -⟩ := cells4 J0.box
  go_upto_region 9 with (at_builtin; refine wpList_append_sl rfl (.tmp 41) (.tmp 43) 22 rfl 9 i9 (.string ⟨#[]⟩) 1 16 Try.underlying22 hi9 hz0 hz1 hz2 rfl K _ l.keys.length (tcells l.keys) rfl J0.keys (fun k => k < w.heap.size) _ r.keys.length (tcells r.keys) rfl J0.right.keys (tcells_one _) ?_ ?_ ?_; (unfold maxLen; omega); omega; intro v1 w1 hs1 hc1; obtain ⟨x1, cap1, rfl⟩ := hs1.shape; (have hq1 := hc1); (have nD : ¬ K D := fun e => (J0.kn D e).2.1 rfl); (have bD1 := hq1.keeps J0.out nD); obtain ⟨c0_1, c1_1, c2_1, c3_1, f0_1, f1_1, f2_1, f3_1⟩ := cells4 bD1)
  rw [← tcells_append] at hs1
  obtain ⟨K1, J1⟩ : ∃ K1, Jn w (w1.setCell ⟨D, 1, none⟩ (.slice x1 (l.keys.length + r.keys.length) cap1)) D r true true rka rkc rva rvc ria ric K1 V I (l.keys ++ r.keys) l.values l.kids (l.keys.length + r.keys.length) l.values.length l.kids.length x1 cap1 va6 vc6 ia6 ic6 := ⟨_, J0.keys' hs1 hq1⟩
  clear hs1 hc1 hq1 nD bD1 c0_1 c1_1 c2_1 c3_1 f0_1 f1_1 f2_1 f3_1 e0_0 e1_0 e2_0 e3_0 g0_0 g1_0 g2_0 g3_0 y0_0 y1_0 y2_0 y3_0 ld_0 lb_0 J0
  generalize w1.setCell ⟨D, 1, none⟩ (.slice x1 (l.keys.length + r.keys.length) cap1) = W1 at *
  have ld_1 := lt_of_block J1.out
  have lb_1 := lt_of_block J1.box
  obtain ⟨e0_1, e1_1, e2_1, e3_1, g0_1, g1_1, g2_1, g3_1⟩ := cells4 J1.out
  obtain ⟨y0_1, y1_1, y2_1, y3_1, -, -, -, -⟩ := cells4 J1.box
  go_upto_region 10 with (at_builtin; refine wpList_append_sl rfl (.tmp 47) (.tmp 49) 22 rfl 9 i9 (.string ⟨#[]⟩) 1 16 Try.underlying22 hi9 hz0 hz1 hz2 rfl V _ l.values.length (tcells l.values) rfl J1.values (fun k => k < w.heap.size) _ r.values.length (tcells r.values) rfl J1.right.values (tcells_one _) ?_ ?_ ?_; (unfold maxLen; omega); omega; intro v2 w2 hs2 hc2; obtain ⟨x2, cap2, rfl⟩ := hs2.shape; (have hq2 := hc2); (have nD : ¬ V D := fun e => (J1.vn D e).2.1 rfl); (have bD2 := hq2.keeps J1.out nD); obtain ⟨c0_2, c1_2, c2_2, c3_2, f0_2, f1_2, f2_2, f3_2⟩ := cells4 bD2)
  rw [← tcells_append] at hs2
  obtain ⟨V2, J2⟩ : ∃ V2, Jn w (w2.setCell ⟨D, 2, none⟩ (.slice x2 (l.values.length + r.values.length) cap2)) D r true true rka rkc rva rvc ria ric K1 V2 I (l.keys ++ r.keys) (l.values ++ r.values) l.kids (l.keys.length + r.keys.length) (l.values.length + r.values.length) l.kids.length x1 cap1 x2 cap2 ia6 ic6 := ⟨_, J1.values' hs2 hq2⟩
  clear hs2 hc2 hq2 nD bD2 c0_2 c1_2 c2_2 c3_2 f0_2 f1_2 f2_2 f3_2 e0_1 e1_1 e2_1 e3_1 g0_1 g1_1 g2_1 g3_1 y0_1 y1_1 y2_1 y3_1 ld_1 lb_1 J1
  generalize w2.setCell ⟨D, 2, none⟩ (.slice x2 (l.values.length + r.values.length) cap2) = W2 at *
  have ld_2 := lt_of_block J2.out
  have lb_2 := lt_of_block J2.box
  obtain ⟨e0_2, e1_2, e2_2, e3_2, g0_2, g1_2, g2_2, g3_2⟩ := cells4 J2.out
  obtain ⟨y0_2, y1_2, y2_2, y3_2, -, -, -, -⟩ := cells4 J2.box
  go_upto_region 11 with (at_builtin; refine wpList_append_sl rfl (.tmp 53) (.tmp 55) 23 rfl 3 i3 (.int .i64 0) 1 8 Try.underlying23 hi3 jz0 jz1 jz2 rfl I _ l.kids.length (icells l.kids) rfl J2.kids (fun k => k < w.heap.size) _ r.kids.length (icells r.kids) rfl J2.right.kids (icells_one _) ?_ ?_ ?_; (unfold maxLen; omega); omega; intro v3 w3 hs3 hc3; obtain ⟨x3, cap3, rfl⟩ := hs3.shape; (have hq3 := hc3); (have nD : ¬ I D := fun e => (J2.iN D e).2.1 rfl); (have bD3 := hq3.keeps J2.out nD); obtain ⟨c0_3, c1_3, c2_3, c3_3, f0_3, f1_3, f2_3, f3_3⟩ := cells4 bD3)
  rw [← icells_append] at hs3
  obtain ⟨I3, J3⟩ : ∃ I3, Jn w (w3.setCell ⟨D, 3, none⟩ (.slice x3 (l.kids.length + r.kids.length) cap3)) D r true true rka rkc rva rvc ria ric K1 V2 I3 (l.keys ++ r.keys) (l.values ++ r.values) (l.kids ++ r.kids) (l.keys.length + r.keys.length) (l.values.length + r.values.length) (l.kids.length + r.kids.length) x1 cap1 x2 cap2 x3 cap3 := ⟨_, J2.kids' hs3 hq3⟩
  clear hs3 hc3 hq3 nD bD3 c0_3 c1_3 c2_3 c3_3 f0_3 f1_3 f2_3 f3_3 e0_2 e1_2 e2_2 e3_2 g0_2 g1_2 g2_2 g3_2 y0_2 y1_2 y2_2 y3_2 ld_2 lb_2 J2
  generalize w3.setCell ⟨D, 3, none⟩ (.slice x3 (l.kids.length + r.kids.length) cap3) = W3 at *
  have TX : TxtAt W3 K1 (.slice x1 (l.keys.length + r.keys.length) cap1) (l.keys ++ r.keys) := by
    have h0 := J3.keys.rd
    have e : (l.keys ++ r.keys).length = (l.keys.length + r.keys.length) := by simp; try omega
    unfold TxtAt
    rw [e]
    exact h0
  have ld := lt_of_block J3.out
  have l6 := lt_of_block J3.six
  obtain ⟨e0, e1, e2, e3, -, -, -, -⟩ := cells4 J3.out
  have EJ : (l.join key r).keys = (l.keys ++ r.keys) ∧ l.join key r = ⟨true, (l.keys ++ r.keys), l.values ++ r.values, l.kids ++ r.kids⟩ := by
    have e : l.join key r = ⟨true, (l.keys ++ r.keys), l.values ++ r.values, l.kids ++ r.kids⟩ := by unfold ND.join; rw [HL.out]; rfl
    exact ⟨by rw [e], e⟩
  have hups := HU.out
  rw [EJ.1] at hups
  have HUP := Lib.hid hups
  have EJ2 := Lib.hid EJ.2
  clear hups EJ
  go_wp2_with (go_at_call 37; refine (rises_any _ _ _ _ TX).mono ?_; rw [HUP.out]; rintro e w9 ⟨rfl, k9⟩; (have o9 := below_keeps k9 J3.out ld); (have s9 := below_keeps k9 J3.six l6); obtain ⟨q0, q1, q2, q3, -, -, -, -⟩ := cells4 o9; obtain ⟨p0, p1, p2, p3, g0, g1, g2, g3⟩ := cells4 s9)
  refine bodyPost_ret (v := .tuple #[.agg #[.bool true, .slice x1 (l.keys.length + r.keys.length) cap1, .slice x2 (l.values.length + r.values.length) cap2, .slice x3 (l.kids.length + r.kids.length) cap3], .int .i64 0]) (by simp [results, Try.results13, go_sem, *]) rfl ?_
  have hc8 := chg4 (Bl.refl w9) (w.heap.size + 1 + 1) (.bool true) (.slice x1 (l.keys.length + r.keys.length) cap1) (.slice x2 (l.values.length + r.values.length) cap2) (.slice x3 (l.kids.length + r.kids.length) cap3)
  have hB := J3.bl.size
  have h9 := k9.size
  refine ⟨⟨_, rfl, ?_⟩, Below.trans (J3.bl.trans k9) (hc8.below (by omega) (fun i hi e => by omega))⟩
  rw [EJ2.out]
  have f : ∀ {own : Nat → Prop} {t n : Nat} {v : Value} {xs : List Value}, SlAt W3 own t 1 v n xs → (∀ j, own j → w.heap.size + 3 ≤ j ∧ j ≠ D ∧ j < W3.heap.size) → RdAt ((((w9.setCell ⟨w.heap.size + 1 + 1, 0, none⟩ (.bool true)).setCell ⟨w.heap.size + 1 + 1, 1, none⟩ (.slice x1 (l.keys.length + r.keys.length) cap1)).setCell ⟨w.heap.size + 1 + 1, 2, none⟩ (.slice x2 (l.values.length + r.values.length) cap2)).setCell ⟨w.heap.size + 1 + 1, 3, none⟩ (.slice x3 (l.kids.length + r.kids.length) cap3)) (fun k => w.heap.size ≤ k) 1 v n xs := fun s h =>
    (RdAt.chg ((s.rd).below k9) hc8 (fun j e => by have := h j e; omega)).mono (fun j _ e => by have := h j e; omega)
  have z1 : ((l.keys ++ r.keys)).length = (l.keys.length + r.keys.length) := by simp; try omega
  have z2 : (l.values ++ r.values).length = l.values.length + r.values.length := by simp
  have z3 : (l.kids ++ r.kids).length = l.kids.length + r.kids.length := by simp
  refine ⟨x1, cap1, x2, cap2, x3, cap3, by simp only [nodeV, z1, z2, z3], ?_, ?_, ?_⟩
  · show RdAt _ _ 1 (.slice x1 ((l.keys ++ r.keys)).length cap1) ((l.keys ++ r.keys)).length _
    rw [z1]; exact f J3.keys J3.kn
  · show RdAt _ _ 1 (.slice x2 (l.values ++ r.values).length cap2) (l.values ++ r.values).length _
    rw [z2]; exact f J3.values J3.vn
  · show RdAt _ _ 1 (.slice x3 (l.kids ++ r.kids).length cap3) (l.kids ++ r.kids).length _
    rw [z3]; exact f J3.kids J3.iN

set_option maxRecDepth 100000 in
set_option maxHeartbeats 4000000 in
theorem join_ok_false (w : World) (own own2 : Nat → Prop) (v u : Value) (l r : ND) (key : ByteArray) (hv : NodeAt w own v l) (hu : NodeAt w own2 u r) (sl : l.Small) (sr : r.Small) (ll : l.Lens) (lr : r.Lens) (hl : l.leaf = false) (hr : r.leaf = false)
    (pl : l.pcheck true = 0) (pr : r.pcheck true = 0) (hkey : keyOk key = true) (hk9 : key.size ≤ 9223372036854775807) (hups : ups (l.join key r).keys = true) (sj : (l.join key r).Small) :
    Calls Try.prog 13 #[v, .string key, u] w fun e w' => (∃ x, e = .returned (.tuple #[x, .int .i64 0]) ∧ NodeAt w' (fun k => w.heap.size ≤ k) x (l.join key r)) ∧ Bl w w' := by
  have hu' : NodeAt w (fun k => k < w.heap.size) u r := by
    obtain ⟨a, b, c, d, e, f, rfl, h⟩ := hu
    exact ⟨a, b, c, d, e, f, rfl, h.mono (fun k hk _ => hk)⟩
  clear hu
  have hv' := hv
  obtain ⟨ka, kc, va, vc, ia, ic, rfl, h⟩ := hv
  have hu2 := hu'
  obtain ⟨rka, rkc, rva, rvc, ria, ric, rfl, h2⟩ := hu'
  obtain ⟨i9, hi9, hz0, hz1, hz2⟩ := info_parts info9
  obtain ⟨i3, hi3, jz0, jz1, jz2⟩ := info_parts info3
  obtain ⟨s1, s2, s3⟩ := sl
  obtain ⟨s4, s5, s6⟩ := sr
  have HLJ := Lib.hid hl
  obtain ⟨s7, s8, s9⟩ := sj
  rw [ND.join, hl] at s7 s8 s9
  simp only [Bool.false_eq_true, if_false, List.length_append, List.length_cons, List.length_nil] at s7 s8 s9
  have sl' : l.Small := ⟨s1, s2, s3⟩
  have sr' : r.Small := ⟨s4, s5, s6⟩
  have HKY := Lib.hid hkey
  clear hkey
  unfold nodeV
  unfold nodeV at hv' hu2
  rw [hl, hr]
  rw [hl] at hv'
  rw [hr] at hu2
  have HL := Lib.hid hl
  have HR := Lib.hid hr
  clear hl hr
  have HP := Lib.hid (And.intro pl pr)
  clear pl pr
  have HU := Lib.hid hups
  clear hups
  have kB : Bl w (((w.alloc (.cells #[.bool false, .slice ka l.keys.length kc, .slice va l.values.length vc, .slice ia l.kids.length ic] 25)).alloc (.cells #[.bool false, .slice rka r.keys.length rkc, .slice rva r.values.length rvc, .slice ria r.kids.length ric] 25)).alloc (.cells #[.bool false, .slice none 0 0, .slice none 0 0, .slice none 0 0] 25)) := (((Bl.refl w).alloc _).alloc _).alloc _
  have b0 : (((w.alloc (.cells #[.bool false, .slice ka l.keys.length kc, .slice va l.values.length vc, .slice ia l.kids.length ic] 25)).alloc (.cells #[.bool false, .slice rka r.keys.length rkc, .slice rva r.values.length rvc, .slice ria r.kids.length ric] 25)).alloc (.cells #[.bool false, .slice none 0 0, .slice none 0 0, .slice none 0 0] 25)).heap[w.heap.size]? = some (.cells #[.bool false, .slice ka l.keys.length kc, .slice va l.values.length vc, .slice ia l.kids.length ic] 25 (0, 0)) := block_old _ (block_old _ (block_new _ _))
  have b1 : (((w.alloc (.cells #[.bool false, .slice ka l.keys.length kc, .slice va l.values.length vc, .slice ia l.kids.length ic] 25)).alloc (.cells #[.bool false, .slice rka r.keys.length rkc, .slice rva r.values.length rvc, .slice ria r.kids.length ric] 25)).alloc (.cells #[.bool false, .slice none 0 0, .slice none 0 0, .slice none 0 0] 25)).heap[w.heap.size + 1]? = some (.cells #[.bool false, .slice rka r.keys.length rkc, .slice rva r.values.length rvc, .slice ria r.kids.length ric] 25 (0, 0)) := block_old _ (block_new' _ (by simp))
  have b2 : (((w.alloc (.cells #[.bool false, .slice ka l.keys.length kc, .slice va l.values.length vc, .slice ia l.kids.length ic] 25)).alloc (.cells #[.bool false, .slice rka r.keys.length rkc, .slice rva r.values.length rvc, .slice ria r.kids.length ric] 25)).alloc (.cells #[.bool false, .slice none 0 0, .slice none 0 0, .slice none 0 0] 25)).heap[w.heap.size + 1 + 1]? = some (.cells #[.bool false, .slice none 0 0, .slice none 0 0, .slice none 0 0] 25 (0, 0)) := block_new' _ (by simp)
  go_enter Try.func13, Try.ntmps13
  go_upto_region 1 with fail
  generalize ((w.alloc (.cells #[.bool false, .slice ka l.keys.length kc, .slice va l.values.length vc, .slice ia l.kids.length ic] 25)).alloc (.cells #[.bool false, .slice rka r.keys.length rkc, .slice rva r.values.length rvc, .slice ria r.kids.length ric] 25)).alloc (.cells #[.bool false, .slice none 0 0, .slice none 0 0, .slice none 0 0] 25) = W3 at *
  have l0 := lt_of_block b0
  have l1 := lt_of_block b1
  have l2 := lt_of_block b2
  obtain ⟨x0, x1, x2, x3, -, -, -, -⟩ := cells4 b0
  obtain ⟨y0, y1, y2, y3, -, -, -, -⟩ := cells4 b1
  go_upto_region 7 with (first
    | (go_at_call 35; (have kq := k4); clear kq; refine (pcheck_any _ _ _ r true (hu2.bl (kB.trans k4)) sr' lr).mono ?_; rw [HP.out.2]; rintro e w5 ⟨rfl, k5⟩; (have b05 := below_keeps k5 b04 m0); (have b15 := below_keeps k5 b14 m1); (have b25 := below_keeps k5 b24 m2); (have n0 := lt_of_block b05); (have n1 := lt_of_block b15); (have n2 := lt_of_block b25); obtain ⟨x05, x15, x25, x35, -, -, -, -⟩ := cells4 b05)
    | (go_at_call 35; refine (pcheck_any _ _ _ l true (hv'.bl kB) sl' ll).mono ?_; rw [HP.out.1]; rintro e w4 ⟨rfl, k4⟩; (have b04 := below_keeps k4 b0 l0); (have b14 := below_keeps k4 b1 l1); (have b24 := below_keeps k4 b2 l2); (have m0 := lt_of_block b04); (have m1 := lt_of_block b14); (have m2 := lt_of_block b24); obtain ⟨x04, x14, x24, x34, -, -, -, -⟩ := cells4 b04; obtain ⟨y04, y14, y24, y34, -, -, -, -⟩ := cells4 b14)
    | (go_at_call 36; refine (keyRight_any _ key hk9).mono ?_; rw [HKY.out]; rintro e w7 ⟨rfl, rfl⟩)
    | (go_at_call 33; refine (copied_sl_lit _ own _ l false HL.out (hv'.bl ((kB.trans k4).trans k5)) sl').mono ?_; rintro e w6 ⟨⟨ka6, kc6, va6, vc6, ia6, ic6, K, V, I, rfl, q6, ap6, cp6⟩, k6⟩; (have b06 := below_keeps k6 b05 n0); (have b16 := below_keeps k6 b15 n1); (have b26 := below_keeps k6 b25 n2); (have p0 := lt_of_block b06); (have p1 := lt_of_block b16); (have p2 := lt_of_block b26); obtain ⟨x06, x16, x26, x36, -, -, -, -⟩ := cells4 b06; obtain ⟨y06, y16, y26, y36, -, -, -, -⟩ := cells4 b16))
  have J0 : Jn w (w6.alloc (.cells #[.bool false, .slice ka6 l.keys.length kc6, .slice va6 l.values.length vc6, .slice ia6 l.kids.length ic6] 25)) w6.heap.size r false false rka rkc rva rvc ria ric K V I l.keys l.values l.kids l.keys.length l.values.length l.kids.length ka6 kc6 va6 vc6 ia6 ic6 := by
    have kA : Bl w6 (w6.alloc (.cells #[.bool false, .slice ka6 l.keys.length kc6, .slice va6 l.values.length vc6, .slice ia6 l.kids.length ic6] 25)) := (Bl.refl _).alloc _
    exact ⟨(((kB.trans k4).trans k5).trans k6).alloc _,
      fun j e => by have e1 := ap6.k j e; have e2 := cp6 j (.inl e); simp only [World.size_alloc]; omega,
      fun j e => by have e1 := ap6.v j e; have e2 := cp6 j (.inr (.inl e)); simp only [World.size_alloc]; omega,
      fun j e => by have e1 := ap6.i j e; have e2 := cp6 j (.inr (.inr e)); simp only [World.size_alloc]; omega,
      ap6.kv, ap6.ki, ap6.vi, by omega, block_old _ b16, block_old _ b26, block_new _ _, q6.keys.below kA, q6.values.below kA, q6.kids.below kA,
      h2.below ((((kB.trans k4).trans k5).trans k6).alloc _)⟩
  clear x0 x1 x2 x3 y0 y1 y2 y3 x04 x14 x24 x34 y04 y14 y24 y34 x05 x15 x25 x35 x06 x16 x26 x36 y06 y16 y26 y36 b0 b1 b2 b04 b14 b24 b05 b15 b25 b06 b16 b26 l0 l1 l2 m0 m1 m2 n0 n1 n2 p0 p1 p2 q6 ap6 cp6 k4 k5 k6 kB h h2 hv' hu2 HP
  generalize w6.alloc (.cells #[.bool false, .slice ka6 l.keys.length kc6, .slice va6 l.values.length vc6, .slice ia6 l.kids.length ic6] 25) = W0 at *
  generalize w6.heap.size = D at *
  have ld_0 := lt_of_block J0.out
  obtain ⟨e0_0, e1_0, e2_0, e3_0, g0_0, g1_0, g2_0, g3_0⟩ := cells4 J0.out
  go_upto_region 8 with (at_builtin; refine wpList_append_sl rfl (.tmp 35) (.tmp 37) 22 rfl 9 i9 (.string ⟨#[]⟩) 1 16 Try.underlying22 hi9 hz0 hz1 hz2 rfl K _ l.keys.length (tcells l.keys) rfl ?_ (fun j => j = W0.heap.size) _ 1 (tcells [key]) rfl ?_ (tcells_one _) ?_ ?_ ?_; exact J0.keys.below ((Bl.refl _).alloc _); exact rd_newG rfl rfl (by unfold maxLen; omega); (unfold maxLen; omega); omega; intro v1 w1 hs1 hc1; obtain ⟨x1, cap1, rfl⟩ := hs1.shape; (have hq1 : Chg K W0 w1 := ((Chg.refl K W0).alloc _).trans hc1); (have nD : ¬ K D := fun e => (J0.kn D e).2.1 rfl); (have bD1 := hq1.keeps J0.out nD); obtain ⟨c0_1, c1_1, c2_1, c3_1, f0_1, f1_1, f2_1, f3_1⟩ := cells4 bD1)
  rw [← tcells_append] at hs1
  replace hs1 := hs1.mono (own2 := fun k => K k ∨ k = W0.heap.size + 1) (fun j _ e => by simpa only [World.size_alloc] using e)
  obtain ⟨K1, J1⟩ : ∃ K1, Jn w (w1.setCell ⟨D, 1, none⟩ (.slice x1 (l.keys.length + 1) cap1)) D r false false rka rkc rva rvc ria ric K1 V I (l.keys ++ [key]) l.values l.kids (l.keys.length + 1) l.values.length l.kids.length x1 cap1 va6 vc6 ia6 ic6 := ⟨_, J0.keys2' hs1 hq1⟩
  clear hs1 hc1 hq1 nD bD1 c0_1 c1_1 c2_1 c3_1 f0_1 f1_1 f2_1 f3_1 e0_0 e1_0 e2_0 e3_0 g0_0 g1_0 g2_0 g3_0 ld_0 J0
  generalize w1.setCell ⟨D, 1, none⟩ (.slice x1 (l.keys.length + 1) cap1) = W1 at *
  have ld_1 := lt_of_block J1.out
  have lb_1 := lt_of_block J1.box
  obtain ⟨e0_1, e1_1, e2_1, e3_1, g0_1, g1_1, g2_1, g3_1⟩ := cells4 J1.out
  obtain ⟨y0_1, y1_1, y2_1, y3_1, -, -, -, -⟩ := cells4 J1.box
  go_upto_region 9 with (at_builtin; refine wpList_append_sl rfl (.tmp 41) (.tmp 43) 22 rfl 9 i9 (.string ⟨#[]⟩) 1 16 Try.underlying22 hi9 hz0 hz1 hz2 rfl K1 _ (l.keys.length + 1) (tcells (l.keys ++ [key])) rfl J1.keys (fun k => k < w.heap.size) _ r.keys.length (tcells r.keys) rfl J1.right.keys (tcells_one _) ?_ ?_ ?_; (unfold maxLen; omega); omega; intro v2 w2 hs2 hc2; obtain ⟨x2, cap2, rfl⟩ := hs2.shape; (have hq2 := hc2); (have nD : ¬ K1 D := fun e => (J1.kn D e).2.1 rfl); (have bD2 := hq2.keeps J1.out nD); obtain ⟨c0_2, c1_2, c2_2, c3_2, f0_2, f1_2, f2_2, f3_2⟩ := cells4 bD2)
  rw [← tcells_append] at hs2
  obtain ⟨K2, J2⟩ : ∃ K2, Jn w (w2.setCell ⟨D, 1, none⟩ (.slice x2 ((l.keys.length + 1) + r.keys.length) cap2)) D r false false rka rkc rva rvc ria ric K2 V I ((l.keys ++ [key]) ++ r.keys) l.values l.kids ((l.keys.length + 1) + r.keys.length) l.values.length l.kids.length x2 cap2 va6 vc6 ia6 ic6 := ⟨_, J1.keys' hs2 hq2⟩
  clear hs2 hc2 hq2 nD bD2 c0_2 c1_2 c2_2 c3_2 f0_2 f1_2 f2_2 f3_2 e0_1 e1_1 e2_1 e3_1 g0_1 g1_1 g2_1 g3_1 y0_1 y1_1 y2_1 y3_1 ld_1 lb_1 J1
  generalize w2.setCell ⟨D, 1, none⟩ (.slice x2 ((l.keys.length + 1) + r.keys.length) cap2) = W2 at *
  have ld_2 := lt_of_block J2.out
  have lb_2 := lt_of_block J2.box
  obtain ⟨e0_2, e1_2, e2_2, e3_2, g0_2, g1_2, g2_2, g3_2⟩ := cells4 J2.out
  obtain ⟨y0_2, y1_2, y2_2, y3_2, -, -, -, -⟩ := cells4 J2.box
  go_upto_region 10 with (at_builtin; refine wpList_append_sl rfl (.tmp 47) (.tmp 49) 22 rfl 9 i9 (.string ⟨#[]⟩) 1 16 Try.underlying22 hi9 hz0 hz1 hz2 rfl V _ l.values.length (tcells l.values) rfl J2.values (fun k => k < w.heap.size) _ r.values.length (tcells r.values) rfl J2.right.values (tcells_one _) ?_ ?_ ?_; (unfold maxLen; omega); omega; intro v3 w3 hs3 hc3; obtain ⟨x3, cap3, rfl⟩ := hs3.shape; (have hq3 := hc3); (have nD : ¬ V D := fun e => (J2.vn D e).2.1 rfl); (have bD3 := hq3.keeps J2.out nD); obtain ⟨c0_3, c1_3, c2_3, c3_3, f0_3, f1_3, f2_3, f3_3⟩ := cells4 bD3)
  rw [← tcells_append] at hs3
  obtain ⟨V3, J3⟩ : ∃ V3, Jn w (w3.setCell ⟨D, 2, none⟩ (.slice x3 (l.values.length + r.values.length) cap3)) D r false false rka rkc rva rvc ria ric K2 V3 I ((l.keys ++ [key]) ++ r.keys) (l.values ++ r.values) l.kids ((l.keys.length + 1) + r.keys.length) (l.values.length + r.values.length) l.kids.length x2 cap2 x3 cap3 ia6 ic6 := ⟨_, J2.values' hs3 hq3⟩
  clear hs3 hc3 hq3 nD bD3 c0_3 c1_3 c2_3 c3_3 f0_3 f1_3 f2_3 f3_3 e0_2 e1_2 e2_2 e3_2 g0_2 g1_2 g2_2 g3_2 y0_2 y1_2 y2_2 y3_2 ld_2 lb_2 J2
  generalize w3.setCell ⟨D, 2, none⟩ (.slice x3 (l.values.length + r.values.length) cap3) = W3 at *
  have ld_3 := lt_of_block J3.out
  have lb_3 := lt_of_block J3.box
  obtain ⟨e0_3, e1_3, e2_3, e3_3, g0_3, g1_3, g2_3, g3_3⟩ := cells4 J3.out
  obtain ⟨y0_3, y1_3, y2_3, y3_3, -, -, -, -⟩ := cells4 J3.box
  go_upto_region 11 with (at_builtin; refine wpList_append_sl rfl (.tmp 53) (.tmp 55) 23 rfl 3 i3 (.int .i64 0) 1 8 Try.underlying23 hi3 jz0 jz1 jz2 rfl I _ l.kids.length (icells l.kids) rfl J3.kids (fun k => k < w.heap.size) _ r.kids.length (icells r.kids) rfl J3.right.kids (icells_one _) ?_ ?_ ?_; (unfold maxLen; omega); omega; intro v4 w4 hs4 hc4; obtain ⟨x4, cap4, rfl⟩ := hs4.shape; (have hq4 := hc4); (have nD : ¬ I D := fun e => (J3.iN D e).2.1 rfl); (have bD4 := hq4.keeps J3.out nD); obtain ⟨c0_4, c1_4, c2_4, c3_4, f0_4, f1_4, f2_4, f3_4⟩ := cells4 bD4)
  rw [← icells_append] at hs4
  obtain ⟨I4, J4⟩ : ∃ I4, Jn w (w4.setCell ⟨D, 3, none⟩ (.slice x4 (l.kids.length + r.kids.length) cap4)) D r false false rka rkc rva rvc ria ric K2 V3 I4 ((l.keys ++ [key]) ++ r.keys) (l.values ++ r.values) (l.kids ++ r.kids) ((l.keys.length + 1) + r.keys.length) (l.values.length + r.values.length) (l.kids.length + r.kids.length) x2 cap2 x3 cap3 x4 cap4 := ⟨_, J3.kids' hs4 hq4⟩
  clear hs4 hc4 hq4 nD bD4 c0_4 c1_4 c2_4 c3_4 f0_4 f1_4 f2_4 f3_4 e0_3 e1_3 e2_3 e3_3 g0_3 g1_3 g2_3 g3_3 y0_3 y1_3 y2_3 y3_3 ld_3 lb_3 J3
  generalize w4.setCell ⟨D, 3, none⟩ (.slice x4 (l.kids.length + r.kids.length) cap4) = W4 at *
  have TX : TxtAt W4 K2 (.slice x2 ((l.keys.length + 1) + r.keys.length) cap2) ((l.keys ++ [key]) ++ r.keys) := by
    have h0 := J4.keys.rd
    have e : ((l.keys ++ [key]) ++ r.keys).length = ((l.keys.length + 1) + r.keys.length) := by simp; try omega
    unfold TxtAt
    rw [e]
    exact h0
  have ld := lt_of_block J4.out
  have l6 := lt_of_block J4.six
  obtain ⟨e0, e1, e2, e3, -, -, -, -⟩ := cells4 J4.out
  have EJ : (l.join key r).keys = ((l.keys ++ [key]) ++ r.keys) ∧ l.join key r = ⟨false, ((l.keys ++ [key]) ++ r.keys), l.values ++ r.values, l.kids ++ r.kids⟩ := by
    have e : l.join key r = ⟨false, ((l.keys ++ [key]) ++ r.keys), l.values ++ r.values, l.kids ++ r.kids⟩ := by unfold ND.join; rw [HL.out]; rfl
    exact ⟨by rw [e], e⟩
  have hups := HU.out
  rw [EJ.1] at hups
  have HUP := Lib.hid hups
  have EJ2 := Lib.hid EJ.2
  clear hups EJ
  go_wp2_with (go_at_call 37; refine (rises_any _ _ _ _ TX).mono ?_; rw [HUP.out]; rintro e w9 ⟨rfl, k9⟩; (have o9 := below_keeps k9 J4.out ld); (have s9 := below_keeps k9 J4.six l6); obtain ⟨q0, q1, q2, q3, -, -, -, -⟩ := cells4 o9; obtain ⟨p0, p1, p2, p3, g0, g1, g2, g3⟩ := cells4 s9)
  refine bodyPost_ret (v := .tuple #[.agg #[.bool false, .slice x2 ((l.keys.length + 1) + r.keys.length) cap2, .slice x3 (l.values.length + r.values.length) cap3, .slice x4 (l.kids.length + r.kids.length) cap4], .int .i64 0]) (by simp [results, Try.results13, go_sem, *]) rfl ?_
  have hc8 := chg4 (Bl.refl w9) (w.heap.size + 1 + 1) (.bool false) (.slice x2 ((l.keys.length + 1) + r.keys.length) cap2) (.slice x3 (l.values.length + r.values.length) cap3) (.slice x4 (l.kids.length + r.kids.length) cap4)
  have hB := J4.bl.size
  have h9 := k9.size
  refine ⟨⟨_, rfl, ?_⟩, Below.trans (J4.bl.trans k9) (hc8.below (by omega) (fun i hi e => by omega))⟩
  rw [EJ2.out]
  have f : ∀ {own : Nat → Prop} {t n : Nat} {v : Value} {xs : List Value}, SlAt W4 own t 1 v n xs → (∀ j, own j → w.heap.size + 3 ≤ j ∧ j ≠ D ∧ j < W4.heap.size) → RdAt ((((w9.setCell ⟨w.heap.size + 1 + 1, 0, none⟩ (.bool false)).setCell ⟨w.heap.size + 1 + 1, 1, none⟩ (.slice x2 ((l.keys.length + 1) + r.keys.length) cap2)).setCell ⟨w.heap.size + 1 + 1, 2, none⟩ (.slice x3 (l.values.length + r.values.length) cap3)).setCell ⟨w.heap.size + 1 + 1, 3, none⟩ (.slice x4 (l.kids.length + r.kids.length) cap4)) (fun k => w.heap.size ≤ k) 1 v n xs := fun s h =>
    (RdAt.chg ((s.rd).below k9) hc8 (fun j e => by have := h j e; omega)).mono (fun j _ e => by have := h j e; omega)
  have z1 : (((l.keys ++ [key]) ++ r.keys)).length = ((l.keys.length + 1) + r.keys.length) := by simp; try omega
  have z2 : (l.values ++ r.values).length = l.values.length + r.values.length := by simp
  have z3 : (l.kids ++ r.kids).length = l.kids.length + r.kids.length := by simp
  refine ⟨x2, cap2, x3, cap3, x4, cap4, by simp only [nodeV, z1, z2, z3], ?_, ?_, ?_⟩
  · show RdAt _ _ 1 (.slice x2 (((l.keys ++ [key]) ++ r.keys)).length cap2) (((l.keys ++ [key]) ++ r.keys)).length _
    rw [z1]; exact f J4.keys J4.kn
  · show RdAt _ _ 1 (.slice x3 (l.values ++ r.values).length cap3) (l.values ++ r.values).length _
    rw [z2]; exact f J4.values J4.vn
  · show RdAt _ _ 1 (.slice x4 (l.kids ++ r.kids).length cap4) (l.kids ++ r.kids).length _
    rw [z3]; exact f J4.kids J4.iN
theorem join_ok (w : World) (own own2 : Nat → Prop) (v u : Value) (l r : ND) (key : ByteArray) (hv : NodeAt w own v l) (hu : NodeAt w own2 u r) (sl : l.Small) (sr : r.Small) (ll : l.Lens) (lr : r.Lens) (hlr : l.leaf = r.leaf)
    (pl : l.pcheck true = 0) (pr : r.pcheck true = 0) (hkey : l.leaf = true ∨ keyOk key = true) (hk9 : key.size ≤ 9223372036854775807) (hups : ups (l.join key r).keys = true) (sj : (l.join key r).Small) :
    Calls Try.prog 13 #[v, .string key, u] w fun e w' => (∃ x, e = .returned (.tuple #[x, .int .i64 0]) ∧ NodeAt w' (fun k => w.heap.size ≤ k) x (l.join key r)) ∧ Bl w w' := by
  cases hf : l.leaf with
  | true => exact join_ok_true w own own2 v u l r key hv hu sl sr ll lr hf (by rw [← hlr, hf]) pl pr hups sj
  | false => exact join_ok_false w own own2 v u l r key hv hu sl sr ll lr hf (by rw [← hlr, hf]) pl pr (hkey.resolve_left (by rw [hf]; decide)) hk9 hups sj
end Go.Proofs.Ytjdkalimaldofaa
