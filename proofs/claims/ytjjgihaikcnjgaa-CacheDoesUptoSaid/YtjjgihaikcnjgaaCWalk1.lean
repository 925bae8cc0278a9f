/-
  made, use, drop, oldest of package cache.
-/
import Derived.Test.YtjjgihaikcnjgaaCMem
import Derived.WalkSpells
import Derived.LaidEqlPtr
import Derived.StillTailTactics
namespace Go.Proofs.Ytjjgihaikcnjgaa
open Go.RowKit Go.Maps
set_option linter.unusedSimpArgs false
set_option linter.unusedVariables false
set_option maxRecDepth 100000

theorem law3 : Keyed Try.prog 3 := int_keyed Try.underlying3
theorem zero53 (w : World) : (zeroValue 53).run Try.prog w = .ok (.pointer none) w := by kernel_rfl
/-! ### pointers to frames compared -/
theorem info78 : (Try.prog.info? 78).map (fun i => i.size) = some 7 := by kernel_rfl
theorem ptr_eq (w : World) (a : Nat) : (binOp .neq 53 (.pointer (some ⟨a, 0, none⟩)) (.pointer (some ⟨a, 0, none⟩))).run Try.prog w = .ok (.bool false) w := by
  have hi := info78
  cases hj : Try.prog.info? 78 with
  | none => rw [hj] at hi; cases hi
  | some j =>
    have h : ∀ d : Nat, (Op.equalIn (d + 1) 53 (.pointer (some ⟨a, 0, none⟩)) (.pointer (some ⟨a, 0, none⟩))).run Try.prog w = .ok true w := fun d => by
      simp [Op.equalIn, run_underlying Try.underlying53, sizeOf, typeInfo, hj, run_sameAddr_same]
    simp only [binOp]
    simp [Op.equal, Op.maxDepth, h 9999]
theorem ptr_ne {w : World} {a b : Nat} {ca cb : Array Value} {ta tb : TypeId} (hne : a ≠ b) (ha : w.heap[a]? = some (.cells ca ta (0, 0))) (hb : w.heap[b]? = some (.cells cb tb (0, 0))) : (binOp .neq 53 (.pointer (some ⟨a, 0, none⟩)) (.pointer (some ⟨b, 0, none⟩))).run Try.prog w = .ok (.bool true) w := by
  have hi := info78
  cases hj : Try.prog.info? 78 with
  | none => rw [hj] at hi; cases hi
  | some j =>
    rw [hj] at hi
    have hsz : j.size ≠ 0 := by simp at hi; omega
    have hn : (⟨a, 0, none⟩ : Addr) ≠ ⟨b, 0, none⟩ := fun e => hne (by injection e)
    have h : ∀ d : Nat, (Op.equalIn (d + 1) 53 (.pointer (some ⟨a, 0, none⟩)) (.pointer (some ⟨b, 0, none⟩))).run Try.prog w = .ok false w := fun d => by
      simp [Op.equalIn, run_underlying Try.underlying53, sizeOf, typeInfo, hj, hsz, run_sameAddr_other w hn ha hb]
    simp only [binOp]
    simp [Op.equal, Op.maxDepth, h 9999]
section
variable {w : World} {col : Nat → Nat} {c b db rb mb : Nat} {s : CS} {ns : List (Nat × Frm)}
theorem cmade_any (h : w.heap[b]? = some (.cells (cacheC db rb mb s) 58 (0, 0))) : Calls Try.prog 32 #[ptr b] w fun e w' => e = .returned (.bool true) ∧ w = w' := by
  obtain ⟨-, -, -, c3, -, -, -, -, -⟩ := cells_cache h
  have qT := fun (w : World) (r : Option Nat) => run_neq_map_nil (P := Try.prog) w 54 3 53 r Try.underlying54
  unfold ptr
  clear h
  go_enter Try.func32, Try.ntmps32
  go_wp2
  go_ret
  exact ⟨rfl, rfl⟩
theorem use_any {l1 l2 : List (Nat × Frm)} {x : Nat × Frm} (h : CacheIn w col c b s db rb mb (l1 ++ x :: l2)) (hc : 1 < c) (ha : Apart (l1 ++ x :: l2)) (hn : Norm w col) :
    Calls Try.prog 39 #[ptr b, ptr x.1] w fun e w' => e = .returned (.tuple #[]) ∧ CacheIn w' col c b { s with frames := (l1 ++ l2 ++ [x]).map Prod.snd } db rb mb (l1 ++ l2 ++ [x]) ∧ KStep c col col w w' := by
  have hnb := h.nb
  have hnm := h.nm
  have hcr := h.cr
  have hr := h.ring
  obtain ⟨v, hv, hby⟩ := (Seg.mid (a := (rb, f0) :: l1) hr.seg)
  have hxm : x.1 ∈ blks ((rb, f0) :: (l1 ++ x :: l2)) := by simp [blks]
  have hlt := hr.lt
  have hsub : ∀ k, k ∈ blks ((rb, f0) :: (l1 ++ l2)) → k ∈ blks ((rb, f0) :: (l1 ++ x :: l2)) := fun k hk => by
    simp only [blks, List.map_cons, List.map_append, List.mem_cons, List.mem_append] at hk ⊢
    rcases hk with h | h | h
    · exact Or.inl h
    · exact Or.inr (Or.inl h)
    · exact Or.inr (Or.inr (Or.inr h))
  have hxn : x.1 ∉ blks ((rb, f0) :: (l1 ++ l2)) := by
    have h1 : (blks ((rb, f0) :: (l1 ++ l2 ++ [x]))).Nodup := by
      have hp : (blks ((rb, f0) :: (l1 ++ x :: l2))).Perm (blks ((rb, f0) :: (l1 ++ l2 ++ [x]))) := by
        simp only [blks, List.map_cons]
        exact List.Perm.cons _ ((perm_last l1 l2 x).map _)
      exact hp.nodup_iff.1 hr.nodup
    have e : (rb, f0) :: (l1 ++ l2 ++ [x]) = ((rb, f0) :: (l1 ++ l2)) ++ [x] := rfl
    rw [e] at h1
    simp only [blks, List.map_append] at h1
    rw [List.nodup_append] at h1
    exact fun hm => h1.2.2 x.1 hm x.1 (by simp) rfl
  go_enter Try.func39, Try.ntmps39
  go_wp2_with fail
  refine (out_any w col rb x.1 x.2 l1 l2 hr).mono ?_
  rintro e w1 ⟨rfl, r1, hb1, k1, z1⟩
  have hB1 : w1.heap[b]? = some (.cells (cacheC db rb mb s) 58 (0, 0)) := (k1.block b h.lt (fun e => hnb (hsub b e))).trans h.block
  have n1 := hb1.trans hv
  have n2 : BytesAt w1 (fun k => col k = 1) v x.2.bytes := (RdAt.keep hby (fun k hk e => k1.block k hk (fun e' => by have := hcr k (hsub k e'); omega)) (fun k _ e => e) (Nat.le_of_eq z1.symm))
  go_wp2_with fail
  refine (last_any w1 col b db mb rb x.1 _ _ v s x.2 (l1 ++ l2) hB1 r1 n1 n2 hxn (by have := hcr _ hxm; omega)).mono ?_
  rintro e w2 ⟨rfl, r2, k2, z2⟩
  have k2' : Chg (fun k => k ∈ blks ((rb, f0) :: (l1 ++ x :: l2))) w w2 := (k1.mono (fun i _ e => hsub i e)).trans (k2.mono (fun i _ e => (blks_mem i).1 e))
  go_wp2_with fail
  go_end0
  refine ⟨rfl, ?_, KStep.of hn k2' (fun i e => by have := hcr i e; unfold inK; omega)⟩
  exact h.ringed hc k2' (fun i e _ => ⟨hcr i e, fun e' => hnb (e' ▸ e), fun e' => hnm (e' ▸ e)⟩) r2 (fun k hk => hcr k ((blks_mem k).1 hk)) (h.map.perm ha (perm_last l1 l2 x)) rfl rfl rfl
end
theorem exact_map {w : World} {R : Value → Option (DataW Unit × List MemPlace)} {b n : Nat} {D : DataW Unit} (h : w.ownsMap Try.prog 3 R b n D) : w.ownsMap Try.prog 3 R b (Maps.size D) D := by
  obtain ⟨es, clock, h1, h2, h3, rfl⟩ := h
  exact ⟨es, clock, h1, h2, by simp [Maps.size, length_sorted], rfl⟩
theorem Frm.is_self (f : Frm) : Frm.is f.sector f = true := by simp [Frm.is]
theorem apart_mid {l1 l2 : List (Nat × Frm)} {x : Nat × Frm} (h : Apart (l1 ++ x :: l2)) : ∀ y ∈ l1 ++ l2, Frm.is x.2.sector y.2 = false := fun y hy => by
  have h1 : (((l1 ++ l2 ++ [x]).map (fun x => x.2.sector))).Nodup := ((perm_last l1 l2 x).map _).nodup_iff.1 h
  rw [List.map_append, List.nodup_append] at h1
  have := h1.2.2 y.2.sector (List.mem_map_of_mem (f := fun x : Nat × Frm => x.2.sector) hy) x.2.sector (by simp)
  simpa [Frm.is] using this
theorem Apart.del {l1 l2 : List (Nat × Frm)} {x : Nat × Frm} (h : Apart (l1 ++ x :: l2)) : Apart (l1 ++ l2) := by
  have h1 : (((l1 ++ l2 ++ [x]).map (fun x => x.2.sector))).Nodup := ((perm_last l1 l2 x).map _).nodup_iff.1 h
  rw [List.map_append, List.nodup_append] at h1
  exact h1.1
theorem find_none_of {ns : List (Nat × Frm)} {n : Int} (h : ∀ y ∈ ns, Frm.is n y.2 = false) : ns.find? (fun x => Frm.is n x.2) = none := by
  rw [List.find?_eq_none]; intro x hx; simp [h x hx]
theorem any_none_of {ns : List (Nat × Frm)} {n : Int} (h : ∀ y ∈ ns, Frm.is n y.2 = false) : ns.any (fun x => Frm.is n x.2) = false := by
  rw [List.any_eq_false]; intro x hx; simp [h x hx]
theorem MapIs.del {D : DataW Unit} {l1 l2 : List (Nat × Frm)} {x : Nat × Frm} (h : MapIs D (l1 ++ x :: l2)) (ha : Apart (l1 ++ x :: l2)) (ht : Maps.Tidy D) : MapIs (D.del (.int .i64 x.2.sector)) (l1 ++ l2) := by
  have hm := apart_mid ha
  have hne : ∀ n : Int, n ≠ x.2.sector → (Lit.int .i64 n) ≠ .int .i64 x.2.sector := fun n e e' => e (by injection e')
  refine ⟨fun n => ?_, fun n => ?_, ?_⟩
  · by_cases e : n = x.2.sector
    · subst e
      rw [atKey_del_same]
      unfold blockOf
      rw [find_none_of hm]
    · rw [atKey_del_other (hne n e), h.at_ n]
      have : Frm.is n x.2 = false := by simp [Frm.is]; exact fun e' => e e'.symm
      unfold blockOf
      rw [List.find?_append, List.find?_append, List.find?_cons, this]
  · by_cases e : n = x.2.sector
    · subst e
      rw [has_del_same, any_none_of hm]
    · rw [has_del_other (hne n e), h.has n]
      have : Frm.is n x.2 = false := by simp [Frm.is]; exact fun e' => e e'.symm
      simp [List.any_append, List.any_cons, this]
  · have h1 := size_del (k := .int .i64 x.2.sector) ht
    rw [h.has, h.size] at h1
    have h2 : (l1 ++ x :: l2).any (fun y => Frm.is x.2.sector y.2) = true := by simp [Frm.is]
    rw [h2] at h1
    simp at h1 ⊢
    omega
theorem MapIs.put {D : DataW Unit} {ns : List (Nat × Frm)} {x : Nat × Frm} (h : MapIs D ns) (hm : ∀ y ∈ ns, Frm.is x.2.sector y.2 = false) (ht : Maps.Tidy D) (hi : WideAt.IsKeyLit (.int .i64 x.2.sector)) : MapIs (D.put (.int .i64 x.2.sector) (.lit (.int .i64 ((x.1 : Int) + 1)))) (ns ++ [x]) := by
  have hne : ∀ n : Int, n ≠ x.2.sector → (Lit.int .i64 n) ≠ .int .i64 x.2.sector := fun n e e' => e (by injection e')
  have hx := Frm.is_self x.2
  refine ⟨fun n => ?_, fun n => ?_, ?_⟩
  · by_cases e : n = x.2.sector
    · subst e
      rw [atKey_put_same ht.isMap hi]
      unfold blockOf
      rw [List.find?_append, find_none_of hm]
      simp [hx]
    · rw [atKey_put_other (hne n e), h.at_ n]
      have : Frm.is n x.2 = false := by simp [Frm.is]; exact fun e' => e e'.symm
      unfold blockOf
      rw [List.find?_append, List.find?_cons, this]
      simp
  · by_cases e : n = x.2.sector
    · subst e
      rw [has_put_same ht.isMap hi]
      simp [hx]
    · rw [has_put_other (hne n e), h.has n]
      have : Frm.is n x.2 = false := by simp [Frm.is]; exact fun e' => e e'.symm
      simp [this]
  · rw [size_put ht, h.has, any_none_of hm, h.size]
    simp
theorem blks_sub {rb : Nat} {l1 l2 : List (Nat × Frm)} {x : Nat × Frm} (k : Nat) (hk : k ∈ blks ((rb, f0) :: (l1 ++ l2))) : k ∈ blks ((rb, f0) :: (l1 ++ x :: l2)) := by
  simp only [blks, List.map_cons, List.map_append, List.mem_cons, List.mem_append] at hk ⊢
  rcases hk with h | h | h
  · exact Or.inl h
  · exact Or.inr (Or.inl h)
  · exact Or.inr (Or.inr (Or.inr h))
section
variable {w : World} {col : Nat → Nat} {c b db rb mb : Nat} {s : CS} {ns : List (Nat × Frm)}
theorem key_in {n : Int} (h : 0 ≤ n ∧ n < 4097) : keyOf Try.prog 3 (.int .i64 n) = some (.int .i64 n) := keyOf_int_mk Try.underlying3 (by simp [Lit.wf, IntKind.min, IntKind.max, IntKind.bits, IntKind.signed]; omega)
structure DropTells (w : World) (col : Nat → Nat) (c b db rb mb : Nat) (s : CS) (l1 l2 : List (Nat × Frm)) (x : Nat × Frm) (w' : World) : Prop where
  now : CacheIn w' col c b { s with frames := (l1 ++ l2).map Prod.snd } db rb mb (l1 ++ l2)
  step : KStep c col col w w'
  old : w'.heap[x.1]? = w.heap[x.1]?
set_option maxHeartbeats 1000000 in
theorem drop_any {l1 l2 : List (Nat × Frm)} {x : Nat × Frm} (h : CacheIn w col c b s db rb mb (l1 ++ x :: l2)) (hc : 1 < c) (ha : Apart (l1 ++ x :: l2)) (hn : Norm w col) (hx : 0 ≤ x.2.sector ∧ x.2.sector < 4097) :
    Calls Try.prog 40 #[ptr b, ptr x.1] w fun e w' => e = .returned (.tuple #[]) ∧ DropTells w col c b db rb mb s l1 l2 x w' := by
  have hnb := h.nb
  have hnm := h.nm
  have hbm := h.bm
  have hcr := h.cr
  have hr := h.ring
  obtain ⟨v, hv, hby⟩ := (Seg.mid (a := (rb, f0) :: l1) hr.seg)
  have hxm : x.1 ∈ blks ((rb, f0) :: (l1 ++ x :: l2)) := by simp [blks]
  have hlt := hr.lt
  obtain ⟨D, hown, hD⟩ := h.map
  have htidy := hown.tidy law3
  have hkey := key_in hx
  have HKEY := Lib.hid hkey
  have HA := Lib.hid ha
  have Hx := Lib.hid hx
  clear hx ha hkey
  go_enter Try.func40, Try.ntmps40
  go_wp2_with fail
  refine (out_any w col rb x.1 x.2 l1 l2 hr).mono ?_
  rintro e w1 ⟨rfl, r1, hb1, k1, z1⟩
  have hB1 : w1.heap[b]? = some (.cells (cacheC db rb mb s) 58 (0, 0)) := (k1.block b h.lt (fun e => hnb (blks_sub b e))).trans h.block
  obtain ⟨-, -, -, c3, -, -, -, -, -⟩ := cells_cache hB1
  obtain ⟨-, -, x2, -, -, -, -, -⟩ := cells_node (hb1.trans hv)
  have hm1 : w1.heap[mb]? = w.heap[mb]? := k1.block mb h.map.lt (fun e => hnm (blks_sub mb e))
  have hown1 : w1.ownsMap Try.prog 3 ptrElem mb (l1 ++ x :: l2).length D := by
    obtain ⟨es, clock, h1, h2⟩ := hown
    exact ⟨es, clock, hm1.trans h1, h2⟩
  unfold ptr
  go_wp2_with fail
  go_still_tail 9, (by kernel_rfl)
  change wpList _ _ _ _ _ w1.drew
  go_wp2_with (at_delete; refine wpList_delete_own _ rfl _ _ 54 3 rfl 53 law3 Try.underlying54 _ mb _ D rfl hown1.drew _ _ rfl HKEY.out ?_; intro w2 hown2 hturn2)
  go_end0
  have hg := hturn2.grown
  have k2 : Chg (fun k => k = mb ∨ k ∈ blks ((rb, f0) :: (l1 ++ l2))) w w2 :=
    (k1.mono (fun i _ e => Or.inr e)).trans (Chg.mono (own := fun k => k = mb) (⟨hg.os, hg.tape, hg.output, hg.size, fun k hk hne => hg.block k hk (by simp; exact fun e => hne e)⟩) (fun i _ e => Or.inl e))
  have hxn : ¬ (x.1 = mb ∨ x.1 ∈ blks ((rb, f0) :: (l1 ++ l2))) := by
    rintro (e | e)
    · exact hnm (e ▸ hxm)
    · have h1 : (blks ((rb, f0) :: (l1 ++ l2 ++ [x]))).Nodup := by
        have hp : (blks ((rb, f0) :: (l1 ++ x :: l2))).Perm (blks ((rb, f0) :: (l1 ++ l2 ++ [x]))) := by
          simp only [blks, List.map_cons]
          exact List.Perm.cons _ ((perm_last l1 l2 x).map _)
        exact hp.nodup_iff.1 hr.nodup
      have e' : (rb, f0) :: (l1 ++ l2 ++ [x]) = ((rb, f0) :: (l1 ++ l2)) ++ [x] := rfl
      rw [e'] at h1
      simp only [blks, List.map_append] at h1
      rw [List.nodup_append] at h1
      exact h1.2.2 x.1 e x.1 (by simp) rfl
  refine ⟨rfl, ?_, KStep.of hn k2 (fun i e => ?_), k2.block _ (hlt _ hxm) hxn⟩
  · refine ⟨?_, h.cb, h.disk.keep (fun i hi e => k2.block i hi ?_) (Ext.refl _ _) k2.size, rfl, r1.keep (fun i hi e => ?_) (Ext.refl _ _) ?_, fun k hk => hcr k (blks_sub k hk), ?_, h.cm⟩
    · have : ¬ (b = mb ∨ b ∈ blks ((rb, f0) :: (l1 ++ l2))) := by
        rintro (e | e)
        · exact hbm e
        · exact hnb (blks_sub b e)
      exact (k2.block b h.lt this).trans h.block
    · have hcm := h.cm
      rintro (e' | e')
      · subst e'; unfold inC at e; omega
      · have := hcr i (blks_sub i e'); unfold inC at e; omega
    · refine hg.block i hi (fun e' => ?_)
      have hcm := h.cm
      have e' : i = mb := by simpa using e'
      subst e'
      rcases e with e | e
      · omega
      · exact hnm (blks_sub _ e)
    · exact hg.size
    · refine ⟨_, ?_, hD.del HA.out htidy⟩
      have := exact_map hown2
      rwa [(hD.del HA.out htidy).size] at this
  · have hcm := h.cm
    unfold inK
    rcases e with rfl | e
    · omega
    · have := hcr i (blks_sub i e); omega
end
end Go.Proofs.Ytjjgihaikcnjgaa
