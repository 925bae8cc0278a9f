/-
  slices.Insert and slices.Delete, off the shelf, at slices in memory of their own.
-/
import Derived.Test.YthmimbmlcihkaaaGreatShelf
import Derived.Test.YthmimbmlcihkaaaGreatNSplitA
import Derived.Test.YthmimbmlcihkaaaGreatNCopied
namespace Go.Proofs.YthmimbmlcihkaaaGreat
open Go.RowKit
set_option linter.unusedSimpArgs false
set_option linter.unusedVariables false
set_option maxRecDepth 100000
theorem Bl.chg {w a b : World} {own : Nat → Prop} (h : Bl w a) (c : Chg own a b) (ho : ∀ i, i < w.heap.size → ¬ own i) : Bl w b := Below.trans h (c.below h.size ho)
theorem block_setCells {b : Nat} {t : TypeId} {fr : Nat × Nat} : ∀ (vs : List Value) (o : Nat) (w : World) (cur : Array Value), w.heap[b]? = some (.cells cur t fr) → ∃ cur', (w.setCells b o vs).heap[b]? = some (.cells cur' t fr) ∧ cur'.size = cur.size
  | [], _, _, cur, h => ⟨cur, h, rfl⟩
  | v :: r, o, w, cur, h => by
    have h1 : (w.setCell ⟨b, o, none⟩ v).heap[b]? = some (.cells (cur.setIfInBounds o v) t fr) := block_set h o v
    obtain ⟨c', h2, h3⟩ := block_setCells r (o + 1) _ _ h1
    exact ⟨c', h2, by rw [h3]; simp⟩
theorem Chg.setCells {own : Nat → Prop} {a : World} (b : Nat) (hb : b < a.heap.size → own b) : ∀ (vs : List Value) (o : Nat) (w : World), Chg own a w → Chg own a (w.setCells b o vs)
  | [], _, _, h => h
  | v :: r, o, w, h => Chg.setCells b hb r (o + 1) _ (h.setCell ⟨b, o, none⟩ v hb)
theorem sl_of_cells {w : World} {own : Nat → Prop} {e : TypeId} {g off n cap : Nat} {cur : Array Value} {xs : List Value} (hh : w.heap[g]? = some (.cells cur e (0, 0))) (ho : own g) (hl : xs.length = n) (hn : n ≤ cap) (hm : cap ≤ maxLen) (hs : off + cap ≤ cur.size)
    (hc : ∀ j (hj : j < xs.length), w.cell? ⟨g, off + j, none⟩ = some xs[j]) : SlAt w own e 1 (.slice (some ⟨g, off, none⟩) n cap) n xs := by
  refine ⟨by omega, Or.inr ⟨g, off, cap, cur, rfl, ho, hh, hn, hm, by omega, ?_⟩⟩
  apply List.ext_getElem
  · rw [List.length_take, List.length_drop, Array.length_toList]; omega
  · intro j h1 h2
    have := hc j h2
    rw [cell_of_block hh] at this
    rw [List.getElem_take, List.getElem_drop]
    have h3 : off + j < cur.size := by rw [List.length_take, List.length_drop, Array.length_toList] at h1; omega
    rw [Array.getElem?_eq_getElem h3] at this
    simpa using this
theorem sl_new {w : World} {own : Nat → Prop} {e : TypeId} {g n cap : Nat} {xs : List Value} {arr zs : Array Value} (hh : w.heap[g]? = some (.cells (arr ++ zs) e (0, 0))) (ho : own g) (ha : arr = xs.toArray) (hl : xs.length = n) (hn : n ≤ cap) (hm : cap ≤ maxLen) (hs : zs.size = cap - n) :
    SlAt w own e 1 (.slice (some ⟨g, 0, none⟩) n cap) n xs := by
  subst ha
  refine sl_of_cells hh ho hl hn hm (by simp; omega) (fun j hj => ?_)
  rw [cell_of_block hh, Array.getElem?_append_left (by simp; omega)]
  simp [hj]
def txtAt' (l : List ByteArray) (i : Nat) : ByteArray := l[i]?.getD ⟨#[]⟩
theorem txtAt'_get {l : List ByteArray} {i : Nat} (h : i < l.length) : txtAt' l i = l[i] := by simp [txtAt', h]
theorem ins_get (l : List ByteArray) (x : ByteArray) (i : Nat) (hi : i ≤ l.length) (j : Nat) (hj : j < (tcells (l.take i ++ x :: l.drop i)).length) :
    (tcells (l.take i ++ x :: l.drop i))[j] = if j < i then .string (txtAt' l j) else if j = i then .string x else .string (txtAt' l (j - 1)) := by
  unfold tcells at hj ⊢
  rw [List.getElem_map]
  have hlen : (l.take i ++ x :: l.drop i).length = l.length + 1 := by simp; omega
  have hj' : j < l.length + 1 := by rw [List.length_map] at hj; omega
  by_cases h1 : j < i
  · rw [if_pos h1, List.getElem_append_left (by simp; omega), List.getElem_take, txtAt'_get (by omega)]
  · rw [if_neg h1]
    by_cases h2 : j = i
    · subst h2
      have h3 : j - (l.take j).length = 0 := by simp; omega
      rw [if_pos rfl, List.getElem_append_right (by simp; omega)]
      simp only [h3, List.getElem_cons_zero]
    · rw [if_neg h2, List.getElem_append_right (by simp; omega)]
      have h3 : j - (l.take i).length = (j - i - 1) + 1 := by simp; omega
      simp only [h3, List.getElem_cons_succ, List.getElem_drop]
      rw [txtAt'_get (by omega)]
      congr 2
      omega
theorem chg_new {own : Nat → Prop} {w : World} (o : Obj) : Chg own w (w.drew.alloc o) := ((Chg.refl _ _).drew).alloc o
set_option maxHeartbeats 1000000 in
theorem insert_sl (w : World) (K : Nat → Prop) (a : Option Addr) (n c i vb : Nat) (l : List ByteArray) (x : ByteArray) (hs : SlAt w K 9 1 (.slice a n c) n (tcells l)) (hl : l.length = n) (hi : i ≤ n)
    (hv : w.heap[vb]? = some (.cells #[.string x] 9 (0, 0))) (hvK : ¬ K vb) (hbig : n ≤ 8796093022207) :
    Calls Tryz.prog 53 #[.slice a n c, .int .i64 i, .slice (some ⟨vb, 0, none⟩) 1 1] w fun e w' => (∃ u, e = .returned u ∧ SlAt w' (fun j => K j ∨ j = w.heap.size) 9 1 u (n + 1) (tcells (l.take i ++ x :: l.drop i))) ∧ Chg K w w' := by
  have hvs : ∀ j v, ([Value.string x] : List Value)[j]? = some v → w.cell? ⟨vb, 0 + j, none⟩ = some v := fun j v h => by
    rw [cell_of_block hv, Nat.zero_add]
    simpa using h
  have h1v : ∀ v ∈ ([Value.string x] : List Value), v.oneCell' = true := fun v h => by rw [List.mem_singleton.1 h]; rfl
  have hln : (tcells (l.take i ++ x :: l.drop i)).length = n + 1 := by simp [tcells]; omega
  have hcl : (tcells l).length = n := by simp [tcells, hl]
  have hinf : info9 = info9 := rfl
  obtain ⟨-, hs⟩ := hs
  rcases hs with ⟨a', he, rfl⟩ | ⟨g, off, cap, cur, he, hK, hh, hnc, hcm, hsz, htk⟩
  · injection he with e1 e2 e3
    subst e1 e3
    obtain rfl : i = 0 := by omega
    have hl0 : l = [] := List.length_eq_zero_iff.1 hl
    subst hl0
    refine (Any2.slices_Insert_string_end_grow Tryz.laysNm222 a 0 0 vb 0 1 1 [] [.string x] w (by omega) (by omega) (by omega) (by omega) rfl rfl (fun _ => rfl) (fun _ _ j v h => by simp at h) hvs h1v).mono ?_
    rintro e w' ⟨rfl, hw⟩
    have hge := grownCap_ge w (0 + 1) 0 9
    have hle := grownCap_le_maxLen w (0 + 1) 0 9 (by unfold maxLen; omega)
    refine ⟨⟨_, rfl, ?_⟩, by rw [hw]; exact chg_new _⟩
    rw [hw]
    refine sl_new (block_new w.drew _) (Or.inr rfl) rfl rfl hge hle (by rw [size_zeroCells]; exact Nat.mul_one _)
  · injection he with e1 e2 e3
    subst e1 e3
    have hcs : ∀ j v, (tcells l)[j]? = some v → w.cell? ⟨g, off + j, none⟩ = some v := fun j v h => by
      rw [cell_of_block hh]
      rw [← htk, List.getElem?_take] at h
      split at h
      · rw [List.getElem?_drop] at h; simpa using h
      · simp at h
    have hsome : ∀ j, j < c → (w.cell? ⟨g, off + j, none⟩).isSome = true := fun j hj => by
      rw [cell_of_block hh, Array.getElem?_eq_getElem (by omega)]
      rfl
    have hfz : ∀ k, w.frozen? ⟨g, k, none⟩ = false := fun k => free_of_block hh k
    have hvg : vb ≠ g := fun e => hvK (e ▸ hK)
    unfold maxLen at hcm
    by_cases hin : i < n
    · by_cases hroom : n + 1 ≤ c
      · refine (Any2.slices_Insert_string_shift Tryz.laysNm222 g off n c i vb 0 1 1 (tcells l) [.string x] w hin (by omega) hroom (by omega) hvg hcl rfl hcs (fun j hj => hsome j (by omega)) (fun j _ => hfz _) hvs (tcells_one l) h1v 9 9 1 cur.size (by simp [World.shape?, hv]) (by simp [World.shape?, hh]) (by omega) (free_of_block hv _) (free_of_block hv _)).mono ?_
        rintro e w' ⟨rfl, hw⟩
        have hb0 : w.drew.heap[g]? = some (.cells cur 9 (0, 0)) := hh
        obtain ⟨c1, hb1, hz1⟩ := block_setCells ((tcells l).drop i) (off + (i + 1)) w.drew cur hb0
        obtain ⟨c2, hb2, hz2⟩ := block_setCells [.string x] (off + i) _ c1 hb1
        refine ⟨⟨_, rfl, ?_⟩, by rw [hw]; exact Chg.setCells g (fun _ => hK) _ _ _ (Chg.setCells g (fun _ => hK) _ _ _ ((Chg.refl _ _).drew))⟩
        rw [hw]
        refine sl_of_cells hb2 (Or.inl hK) hln (by omega) (by unfold maxLen; omega) (by omega) (fun j hj => ?_)
        have hj' : j < n + 1 := by omega
        rw [ins_get l x i (by omega) j hj]
        have hd0 : ∀ k, k < c → (w.drew.cell? ⟨g, off + k, none⟩).isSome = true := fun k hk => hsome k hk
        have hin1 := World.cell?_setCells_in g ((tcells l).drop i) (off + (i + 1)) w.drew (fun k hk => by
          rw [List.length_drop, hcl] at hk
          rw [Nat.add_assoc]
          exact hd0 _ (by omega))
        by_cases h1 : j < i
        · rw [if_pos h1, World.cell?_setCells_out g _ _ _ _ (fun _ _ => Or.inl (by simp; omega)), World.cell?_setCells_out g _ _ _ _ (fun _ _ => Or.inl (by simp; omega))]
          refine hcs j _ ?_
          rw [tcells_get (by omega), txtAt'_get (by omega)]
        · rw [if_neg h1]
          by_cases h2 : j = i
          · subst h2
            rw [if_pos rfl]
            have := World.cell?_setCells_in g [.string x] (off + j) (w.drew.setCells g (off + (j + 1)) ((tcells l).drop j)) (fun k hk => by
              have hk0 : k = 0 := by simpa using hk
              subst hk0
              rw [World.cell?_setCells_out g _ _ _ _ (fun _ _ => Or.inl (by simp))]
              exact hd0 _ (by omega)) 0 (by simp)
            simpa using this
          · rw [if_neg h2, World.cell?_setCells_out g _ _ _ _ (fun _ _ => Or.inr (by simp; omega))]
            have := hin1 (j - i - 1) (by rw [List.length_drop, hcl]; omega)
            rw [show off + (i + 1) + (j - i - 1) = off + j by omega] at this
            rw [this]
            congr 1
            rw [List.getElem_drop]
            unfold tcells
            rw [List.getElem_map, txtAt'_get (by omega)]
            congr 2
            omega
      · refine (Any2.slices_Insert_string_grow Tryz.laysNm222 g off n c i vb 0 1 1 (tcells l) [.string x] w hin (by omega) hnc (by omega) (by omega) hcl rfl hcs hvs (tcells_one l) h1v).mono ?_
        rintro e w' ⟨rfl, hw⟩
        have hge := grownCap_ge w (n + 1) c 9
        have hle := grownCap_le_maxLen w (n + 1) c 9 (by unfold maxLen; omega)
        have hb0 : (w.alloc (.cells (((tcells l).take i).toArray ++ Builtin.zeroCells (Value.string ⟨#[]⟩).cells (n + 1 - i) ++ Builtin.zeroCells (Value.string ⟨#[]⟩).cells (grownCap w (n + 1) c 9 - (n + 1))) 9)).drew.heap[w.heap.size]? = some (.cells (((tcells l).take i).toArray ++ Builtin.zeroCells (Value.string ⟨#[]⟩).cells (n + 1 - i) ++ Builtin.zeroCells (Value.string ⟨#[]⟩).cells (grownCap w (n + 1) c 9 - (n + 1))) 9 (0, 0)) := block_new w _
        have hz0 : (((tcells l).take i).toArray ++ Builtin.zeroCells (Value.string ⟨#[]⟩).cells (n + 1 - i) ++ Builtin.zeroCells (Value.string ⟨#[]⟩).cells (grownCap w (n + 1) c 9 - (n + 1))).size = grownCap w (n + 1) c 9 := by
          rw [Array.size_append, Array.size_append, size_zeroCells, size_zeroCells, List.size_toArray, List.length_take, hcl, show (Value.string ⟨#[]⟩).cells.size = 1 from rfl]
          omega
        have hj0 : ∀ j (hj : j < i), (((tcells l).take i).toArray ++ Builtin.zeroCells (Value.string ⟨#[]⟩).cells (n + 1 - i) ++ Builtin.zeroCells (Value.string ⟨#[]⟩).cells (grownCap w (n + 1) c 9 - (n + 1)))[j]? = (tcells l)[j]? := fun j hj => by
          rw [Array.append_assoc, Array.getElem?_append_left (by simp; omega), List.getElem?_toArray, List.getElem?_take, if_pos hj]
        have hw' : w' = (((w.alloc (.cells (((tcells l).take i).toArray ++ Builtin.zeroCells (Value.string ⟨#[]⟩).cells (n + 1 - i) ++ Builtin.zeroCells (Value.string ⟨#[]⟩).cells (grownCap w (n + 1) c 9 - (n + 1))) 9)).drew.setCells w.heap.size i [.string x]).drew).setCells w.heap.size (i + 1) ((tcells l).drop i) := hw
        clear hw
        refine ⟨⟨_, rfl, ?_⟩, ?_⟩
        · rw [hw']
          clear hw'
          generalize (((tcells l).take i).toArray ++ Builtin.zeroCells (Value.string ⟨#[]⟩).cells (n + 1 - i) ++ Builtin.zeroCells (Value.string ⟨#[]⟩).cells (grownCap w (n + 1) c 9 - (n + 1))) = arr at *
          show SlAt _ _ 9 1 (.slice (some ⟨w.heap.size, 0, none⟩) (n + 1) (grownCap w (n + 1) c 9)) _ _
          generalize grownCap w (n + 1) c 9 = G at *
          have hc0 : ∀ k, (w.alloc (.cells arr 9)).drew.cell? ⟨w.heap.size, k, none⟩ = arr[k]? := fun k => cell_of_block hb0 k
          generalize (w.alloc (.cells arr 9)).drew = W at *
          generalize w.heap.size = B at *
          obtain ⟨c1, hb1, hz1⟩ := block_setCells [.string x] i W arr hb0
          have hb1' : (W.setCells B i [.string x]).drew.heap[B]? = some (.cells c1 9 (0, 0)) := hb1
          obtain ⟨c2, hb2, hz2⟩ := block_setCells ((tcells l).drop i) (i + 1) _ c1 hb1'
          refine sl_of_cells hb2 (Or.inr rfl) hln hge hle (by omega) (fun j hj => ?_)
          rw [Nat.zero_add]
          have hj' : j < n + 1 := by omega
          rw [ins_get l x i (by omega) j hj]
          have hsm : ∀ k, k < G → (W.cell? ⟨B, k, none⟩).isSome = true := fun k hk => by
            rw [hc0, Array.getElem?_eq_getElem (by omega)]; rfl
          have hx1 := World.cell?_setCells_in B [.string x] i W (fun k hk => by
              have hk0 : k = 0 := by simpa using hk
              subst hk0
              exact hsm _ (by omega)) 0 (by simp)
          by_cases h1 : j < i
          · rw [if_pos h1, World.cell?_setCells_out B _ _ _ _ (fun _ _ => Or.inl (by simp; omega))]
            show (W.setCells B i [.string x]).cell? _ = _
            rw [World.cell?_setCells_out B _ _ _ _ (fun _ _ => Or.inl (by simp; omega)), hc0, hj0 j h1, tcells_get (by omega), txtAt'_get (by omega)]
          · rw [if_neg h1]
            by_cases h2 : j = i
            · subst h2
              rw [if_pos rfl, World.cell?_setCells_out B _ _ _ _ (fun _ _ => Or.inl (by simp))]
              simpa using hx1
            · rw [if_neg h2]
              have := World.cell?_setCells_in B ((tcells l).drop i) (i + 1) (W.setCells B i [.string x]).drew (fun k hk => by
                rw [List.length_drop, hcl] at hk
                show ((W.setCells B i [.string x]).cell? _).isSome = true
                rw [World.cell?_setCells_out B _ _ _ _ (fun _ _ => Or.inr (by simp))]
                exact hsm _ (by omega)) (j - i - 1) (by rw [List.length_drop, hcl]; omega)
              rw [show i + 1 + (j - i - 1) = j by omega] at this
              rw [this]
              congr 1
              rw [List.getElem_drop]
              unfold tcells
              rw [List.getElem_map, txtAt'_get (by omega)]
              congr 2
              omega
        · rw [hw']
          exact Chg.setCells w.heap.size (fun h => absurd h (Nat.lt_irrefl _)) _ _ _ ((Chg.setCells w.heap.size (fun h => absurd h (Nat.lt_irrefl _)) _ _ _ (((Chg.refl _ _).alloc _).drew)).drew)
    · obtain rfl : i = n := by omega
      have hlist : tcells (l.take i ++ x :: l.drop i) = tcells l ++ [.string x] := by
        rw [← hl, List.take_length, List.drop_length]
        simp [tcells]
      rw [hlist] at hln ⊢
      by_cases hroom : i + 1 ≤ c
      · refine (Any2.slices_Insert_string_end_room Tryz.laysNm222 g off i c vb 0 1 1 [.string x] w (by omega) hroom (by omega) rfl (fun j hj => by rw [Nat.add_assoc]; exact hsome _ (by omega)) (fun j _ => hfz _) hvs h1v).mono ?_
        rintro e w' ⟨rfl, hw⟩
        obtain ⟨c2, hb2, hz2⟩ := block_setCells [.string x] (off + i) w cur hh
        refine ⟨⟨_, rfl, ?_⟩, by rw [hw]; exact Chg.setCells g (fun _ => hK) _ _ _ (Chg.refl _ _)⟩
        rw [hw]
        refine sl_of_cells hb2 (Or.inl hK) hln (by omega) (by unfold maxLen; omega) (by omega) (fun j hj => ?_)
        by_cases h1 : j < i
        · rw [World.cell?_setCells_out g _ _ _ _ (fun _ _ => Or.inl (by simp; omega)), List.getElem_append_left (by omega)]
          exact hcs j _ (List.getElem?_eq_getElem _)
        · obtain rfl : j = i := by omega
          have := World.cell?_setCells_in g [.string x] (off + j) w (fun k hk => by
              have hk0 : k = 0 := by simpa using hk
              subst hk0
              exact hsome _ (by omega)) 0 (by simp)
          rw [List.getElem_append_right (by omega)]
          simpa [hcl] using this
      · refine (Any2.slices_Insert_string_end_grow Tryz.laysNm222 (some ⟨g, off, none⟩) i c vb 0 1 1 (tcells l) [.string x] w (by omega) hnc (by omega) (by omega) hcl rfl (fun h => by cases h) (fun a ha j v h => by cases ha; rw [add_lit']; exact hcs j v h) hvs h1v).mono ?_
        rintro e w' ⟨rfl, hw⟩
        have hge := grownCap_ge w (i + 1) c 9
        have hle := grownCap_le_maxLen w (i + 1) c 9 (by unfold maxLen; omega)
        refine ⟨⟨_, rfl, ?_⟩, by rw [hw]; exact chg_new _⟩
        rw [hw]
        exact sl_new (block_new w.drew _) (Or.inr rfl) rfl hln hge hle (by rw [size_zeroCells]; exact Nat.mul_one _)
theorem strs_txt (l : List ByteArray) : (Lib.strsOf (txtAt' l) l.length).map Go.Proofs.encStr = tcells l := by
  apply List.ext_getElem
  · simp [Lib.strsOf, tcells]
  · intro j h1 h2
    have hj : j < l.length := by simpa [tcells] using h2
    simp only [Lib.strsOf, tcells, List.getElem_map, List.getElem_range]
    rw [txtAt'_get hj]
set_option maxHeartbeats 1000000 in
theorem delete_sl (w : World) (K : Nat → Prop) (a : Option Addr) (n c i : Nat) (l : List ByteArray) (hs : SlAt w K 9 1 (.slice a n c) n (tcells l)) (hl : l.length = n) (hi : i < n) :
    Calls Tryz.prog 63 #[.slice a n c, .int .i64 i, .int .i64 ((i : Int) + 1)] w fun e w' => (∃ u, e = .returned u ∧ SlAt w' K 9 1 u (n - 1) (tcells (l.take i ++ l.drop (i + 1)))) ∧ Chg K w w' := by
  obtain ⟨-, hs⟩ := hs
  have hcl : (tcells l).length = n := by simp [tcells, hl]
  rcases hs with ⟨a', he, rfl⟩ | ⟨g, off, cap, cur, he, hK, hh, hnc, hcm, hsz, htk⟩
  · omega
  · injection he with e1 e2 e3
    subst e1 e3
    have hcs : ∀ j (hj : j < n), w.cell? ⟨g, off + j, none⟩ = some (.string (txtAt' l j)) := fun j hj => by
      have h : (tcells l)[j]? = some (.string (txtAt' l j)) := by rw [tcells_get (by omega), txtAt'_get (by omega)]
      rw [cell_of_block hh]
      rw [← htk, List.getElem?_take] at h
      split at h
      · rw [List.getElem?_drop] at h; simpa using h
      · simp at h
    have hsome : ∀ j, j < c → (w.cell? ⟨g, off + j, none⟩).isSome = true := fun j hj => by
      rw [cell_of_block hh, Array.getElem?_eq_getElem (by omega)]
      rfl
    have hfz : ∀ k, w.frozen? ⟨g, k, none⟩ = false := fun k => free_of_block hh k
    have hcm' := hcm
    unfold maxLen at hcm'
    refine (Tryz.slices_Delete_string_cells g off n c i (i + 1) (txtAt' l) w hnc (by omega) (by omega) (by omega) hcs (fun j _ => hfz _)).mono ?_
    rintro e w' ⟨rfl, q, hw⟩
    rw [show i + 1 - i = 1 by omega] at hw ⊢
    have hvs : ((Lib.strsOf (txtAt' l) n).take i ++ (Lib.strsOf (txtAt' l) n).drop (i + 1) ++ List.replicate 1 []).map Go.Proofs.encStr = tcells (l.take i ++ l.drop (i + 1)) ++ [.string ⟨#[]⟩] := by
      rw [List.map_append, List.map_append, List.map_take, List.map_drop, ← hl, strs_txt]
      simp [tcells, Go.Proofs.encStr, List.map_take, List.map_drop]
    rw [hvs] at hw
    have hb0 : (w.drewN q).heap[g]? = some (.cells cur 9 (0, 0)) := hh
    obtain ⟨c2, hb2, hz2⟩ := block_setCells (tcells (l.take i ++ l.drop (i + 1)) ++ [.string ⟨#[]⟩]) off _ cur hb0
    have hlen : (tcells (l.take i ++ l.drop (i + 1))).length = n - 1 := by simp [tcells]; omega
    refine ⟨⟨_, rfl, ?_⟩, by rw [hw]; exact Chg.setCells g (fun _ => hK) _ _ _ ⟨rfl, rfl, rfl, Nat.le_refl _, fun _ _ _ => rfl⟩⟩
    rw [hw]
    refine sl_of_cells hb2 hK hlen (by omega) hcm (by omega) (fun j hj => ?_)
    have := World.cell?_setCells_in g (tcells (l.take i ++ l.drop (i + 1)) ++ [.string ⟨#[]⟩]) off (w.drewN q) (fun k hk => by
      rw [List.length_append, hlen] at hk
      exact hsome k (by simp at hk; omega)) j (by simp; omega)
    rw [this, List.getElem_append_left hj]
end Go.Proofs.YthmimbmlcihkaaaGreat
