/-
  Slices in memory, at whatever place of a block: what they read as, and what append and copy make of them.
-/
import Derived.Test.YthmimbmlcihkaaaGreatHp
import Derived.Laws.CopyOwn
namespace Go.Proofs.YthmimbmlcihkaaaGreat
open Go.RowKit
set_option linter.unusedSimpArgs false
set_option linter.unusedVariables false

/-- slice v of n elements reads as the cells xs, in a block of 'own' -/
def RdAt (w : World) (own : Nat → Prop) (size : Nat) (v : Value) (n : Nat) (xs : List Value) : Prop :=
  xs.length = n * size ∧ ∃ a cap, v = .slice a n cap ∧ n ≤ cap ∧ cap ≤ maxLen ∧
    (0 < n → ∃ g off, a = some ⟨g, off, none⟩ ∧ own g ∧ g < w.heap.size ∧ ∀ (j : Nat) (u : Value), xs[j]? = some u → w.cell? ⟨g, off + j, none⟩ = some u)
/-- the same, and it may be written: no cell of the block is frozen, and its spare room is there -/
def SlAt (w : World) (own : Nat → Prop) (e : TypeId) (size : Nat) (v : Value) (n : Nat) (xs : List Value) : Prop :=
  xs.length = n * size ∧ ((∃ a, v = .slice a 0 0 ∧ n = 0) ∨
   ∃ g off cap cur, v = .slice (some ⟨g, off, none⟩) n cap ∧ own g ∧ w.heap[g]? = some (.cells cur e (0, 0)) ∧ n ≤ cap ∧ cap ≤ maxLen ∧ off + cap * size ≤ cur.size ∧ (cur.toList.drop off).take (n * size) = xs)

theorem SlAt.nil (w : World) (own : Nat → Prop) (e : TypeId) (size : Nat) (a : Option Addr) : SlAt w own e size (.slice a 0 0) 0 [] := ⟨by simp, Or.inl ⟨a, rfl, rfl⟩⟩
theorem SlAt.rd {w : World} {own : Nat → Prop} {e : TypeId} {size : Nat} {v : Value} {n : Nat} {xs : List Value} (h : SlAt w own e size v n xs) : RdAt w own size v n xs := by
  obtain ⟨h1, h2⟩ := h
  rcases h2 with ⟨a, rfl, rfl⟩ | ⟨g, off, cap, cur, rfl, ho, hh, h3, h4, h5, h6⟩
  · exact ⟨h1, a, 0, rfl, by omega, by unfold maxLen; omega, fun h => by omega⟩
  · refine ⟨h1, _, cap, rfl, h3, h4, fun _ => ⟨g, off, rfl, ho, lt_of_block hh, ?_⟩⟩
    intro j u hj
    rw [cell_of_block hh]
    rw [← h6, List.getElem?_take] at hj
    split at hj
    · rw [List.getElem?_drop] at hj; simpa using hj
    · simp at hj
theorem RdAt.keep {w w' : World} {own own2 : Nat → Prop} {size : Nat} {v : Value} {n : Nat} {xs : List Value} (h : RdAt w own size v n xs)
    (hk : ∀ k, k < w.heap.size → own k → w'.heap[k]? = w.heap[k]?) (ho : ∀ k, k < w.heap.size → own k → own2 k) (hs : w.heap.size ≤ w'.heap.size) : RdAt w' own2 size v n xs := by
  obtain ⟨h1, a, cap, rfl, h2, h3, h4⟩ := h
  refine ⟨h1, a, cap, rfl, h2, h3, fun hn => ?_⟩
  obtain ⟨g, off, rfl, h5, h6, h7⟩ := h4 hn
  refine ⟨g, off, rfl, ho g h6 h5, by omega, fun j u hj => ?_⟩
  rw [World.cell?_of_block (w := w) (hk g h6 h5)]; exact h7 j u hj
theorem SlAt.keep {w w' : World} {own own2 : Nat → Prop} {e : TypeId} {size : Nat} {v : Value} {n : Nat} {xs : List Value} (h : SlAt w own e size v n xs)
    (hk : ∀ k, k < w.heap.size → own k → w'.heap[k]? = w.heap[k]?) (ho : ∀ k, k < w.heap.size → own k → own2 k) : SlAt w' own2 e size v n xs := by
  obtain ⟨h1, h2⟩ := h
  rcases h2 with h2 | ⟨g, off, cap, cur, rfl, h3, hh, r⟩
  · exact ⟨h1, Or.inl h2⟩
  · exact ⟨h1, Or.inr ⟨g, off, cap, cur, rfl, ho g (lt_of_block hh) h3, by rw [hk g (lt_of_block hh) h3]; exact hh, r⟩⟩
theorem SlAt.chg {w w' : World} {own own2 : Nat → Prop} {e : TypeId} {size : Nat} {v : Value} {n : Nat} {xs : List Value} (h : SlAt w own e size v n xs)
    (hc : Chg own2 w w') (hd : ∀ k, own k → ¬ own2 k) : SlAt w' own e size v n xs :=
  h.keep (fun k hk ho => hc.block k hk (hd k ho)) (fun _ _ x => x)
theorem RdAt.chg {w w' : World} {own own2 : Nat → Prop} {size : Nat} {v : Value} {n : Nat} {xs : List Value} (h : RdAt w own size v n xs)
    (hc : Chg own2 w w') (hd : ∀ k, own k → ¬ own2 k) : RdAt w' own size v n xs :=
  h.keep (fun k hk ho => hc.block k hk (hd k ho)) (fun _ _ x => x) hc.size
theorem SlAt.below {w w' : World} {own : Nat → Prop} {e : TypeId} {size : Nat} {v : Value} {n : Nat} {xs : List Value} (h : SlAt w own e size v n xs)
    (hb : Below w.heap.size w w') : SlAt w' own e size v n xs := h.keep (fun k hk _ => hb.block k hk) (fun _ _ x => x)
theorem RdAt.below {w w' : World} {own : Nat → Prop} {size : Nat} {v : Value} {n : Nat} {xs : List Value} (h : RdAt w own size v n xs)
    (hb : Below w.heap.size w w') : RdAt w' own size v n xs := h.keep (fun k hk _ => hb.block k hk) (fun _ _ x => x) hb.size
theorem SlAt.mono {w : World} {own own2 : Nat → Prop} {e : TypeId} {size : Nat} {v : Value} {n : Nat} {xs : List Value} (h : SlAt w own e size v n xs) (ho : ∀ k, k < w.heap.size → own k → own2 k) : SlAt w own2 e size v n xs :=
  h.keep (fun _ _ _ => rfl) ho
theorem RdAt.mono {w : World} {own own2 : Nat → Prop} {size : Nat} {v : Value} {n : Nat} {xs : List Value} (h : RdAt w own size v n xs) (ho : ∀ k, k < w.heap.size → own k → own2 k) : RdAt w own2 size v n xs :=
  h.keep (fun _ _ _ => rfl) ho (Nat.le_refl _)

theorem add_lit' (g o n : Nat) : Addr.add ⟨g, o, none⟩ n = ⟨g, o + n, none⟩ := by unfold Addr.add; split <;> simp_all

/-- append at a place of a block where there is room -/
theorem run_append_room_at {P : Program} (w : World) (t ty e : TypeId) (i : TypeInfo) (ht : P.underlying t = some (.slice e)) (hi : P.info? e = some i)
    (g off sLen sCap : Nat) (cur : Array Value) (hg : w.heap[g]? = some (.cells cur e (0, 0)))
    (a : Option Addr) (m c : Nat) (news : List Value) (hl : news.length = m * i.size) (hnews : 0 < m → ∃ ad, a = some ad ∧ ∀ (j : Nat) u, news[j]? = some u → w.cell? (ad.add j) = some u) (h1 : ∀ u ∈ news, u.oneCell' = true)
    (hroom : sLen + m ≤ sCap) (hfit : off + sLen * i.size + news.length ≤ cur.size) :
    (Builtin.append_ #[t, t] ty #[.slice (some ⟨g, off, none⟩) sLen sCap, .slice a m c]).run P w =
      .ok (.slice (some ⟨g, off, none⟩) (sLen + m) sCap) (w.setRow g (cur.toList.take (off + sLen * i.size) ++ news ++ cur.toList.drop (off + sLen * i.size + news.length)).toArray) := by
  have hf : (Builtin.firstCells i.size m (.slice a m c)).run P w = .ok news.toArray w := by
    cases a with
    | none =>
      have hm : m = 0 := by
        rcases Nat.eq_zero_or_pos m with h | h
        · exact h
        · obtain ⟨ad, h, _⟩ := hnews h; simp at h
      subst hm
      have : news = [] := List.eq_nil_of_length_eq_zero (by simpa using hl)
      subst this
      exact run_firstCells_none w i.size 0 0 c
    | some ad =>
      refine run_firstCells_some w i.size m ad m c news hl ?_
      intro j u hj
      have hm : 0 < m := by
        rcases Nat.eq_zero_or_pos m with h | h
        · subst h; have : news = [] := List.eq_nil_of_length_eq_zero (by simpa using hl); subst this; simp at hj
        · exact h
      obtain ⟨ad', h, h'⟩ := hnews hm
      injection h with h; subst h
      exact h' j u hj
  have hst := run_storeCells_at P g (off + sLen * i.size) e news 0 cur w hg (by simpa using hfit) h1
  simp only [Nat.add_zero] at hst
  simp [Builtin.append_, run_underlying ht, sizeOf, typeInfo, hi, Builtin.lenOf, hroom, hf, add_lit', hst]

theorem chg_setRow {own : Nat → Prop} {a w : World} (h : Chg own a w) (g : Nat) (cs : Array Value) (hg : own g) : Chg own a (w.setRow g cs) :=
  h.trans ⟨rfl, rfl, rfl, by simp, fun k _ hn => setRow_other w g k cs (fun e => hn (e ▸ hg))⟩

theorem take_splice (cur xs news : List Value) (off p m : Nat) (hx : (cur.drop off).take p = xs) (hp : xs.length = p) (hfit : off + p + news.length ≤ cur.length) :
    ((cur.take (off + p) ++ news ++ cur.drop (off + p + news.length)).drop off).take (p + news.length) = xs ++ news := by
  have h0 : (cur.take (off + p)).drop off = xs := by rw [List.drop_take, ← hx]; congr 1; omega
  rw [List.append_assoc, List.drop_append_of_le_length (by simp; omega), h0, ← List.append_assoc, ← hp, ← List.length_append, List.take_left]

/-- APPEND, WHATEVER THE ROOM -/
theorem run_append_sl {P : Program} (w : World) (t ty e : TypeId) (i : TypeInfo) (z : Value) (size bytes : Nat) (ht : P.underlying t = some (.slice e)) (hi : P.info? e = some i) (hz : i.zero = some z)
    (hsize : i.size = size) (hby : i.bytes = bytes) (hzs : z.cells.size = size)
    (own : Nat → Prop) (v : Value) (n : Nat) (xs : List Value) (hs : SlAt w own e size v n xs)
    (own2 : Nat → Prop) (x : Value) (m : Nat) (news : List Value) (hx : RdAt w own2 size x m news) (h1 : ∀ u ∈ news, u.oneCell' = true)
    (h63 : n + m ≤ maxLen) (hbytes : (n + m) * bytes ≤ 140737488355328) :
    ∃ v' w', (Builtin.append_ #[t, t] ty #[v, x]).run P w = .ok v' w' ∧ SlAt w' (fun k => own k ∨ k = w.heap.size) e size v' (n + m) (xs ++ news) ∧ Chg own w w' := by
  subst hsize
  subst hby
  have hsmall : n + m ≤ 9223372036854775807 := by simp only [maxLen] at h63; omega
  obtain ⟨hl, a, c, rfl, hmc, hcm, hrd⟩ := hx
  have hlen : (xs ++ news).length = (n + m) * i.size := by rw [List.length_append, hs.1, hl, Nat.add_mul]
  have grown : ∀ (old : Nat), old < n + m →
      SlAt (w.drew.alloc (.cells (xs.toArray ++ news.toArray ++ Builtin.zeroCells z.cells (grownCap w (n + m) old e - (n + m))) e)) (fun k => own k ∨ k = w.heap.size) e i.size
        (.slice (some ⟨w.heap.size, 0, none⟩) (n + m) (grownCap w (n + m) old e)) (n + m) (xs ++ news) ∧
      Chg own w (w.drew.alloc (.cells (xs.toArray ++ news.toArray ++ Builtin.zeroCells z.cells (grownCap w (n + m) old e - (n + m))) e)) := by
    intro old ho
    have hge := grownCap_ge w (n + m) old e
    have hcm : grownCap w (n + m) old e ≤ maxLen := grownCap_le_maxLen w (n + m) old e h63
    refine ⟨⟨hlen, .inr ⟨w.heap.size, 0, _, _, rfl, Or.inr rfl, block_new w.drew _, hge, hcm, ?_, ?_⟩⟩, ((Chg.refl _ _).drew).alloc _⟩
    · simp only [Array.size_append, List.size_toArray, size_zeroCells, hzs, hs.1, hl, ← Nat.add_mul, Nat.zero_add]
      apply Nat.le_of_eq
      congr 1
      omega
    · simp only [Array.toList_append, List.append_assoc, List.drop_zero]
      rw [← List.append_assoc, ← hlen]
      exact List.take_left
  have hnews : 0 < m → ∃ ad, a = some ad ∧ ∀ (j : Nat) u, news[j]? = some u → w.cell? (ad.add j) = some u := by
    intro hm
    obtain ⟨g, off, rfl, _, _, h⟩ := hrd hm
    exact ⟨_, rfl, fun j u hj => by rw [add_lit']; exact h j u hj⟩
  rcases hs.2 with ⟨b, rfl, rfl⟩ | ⟨g, off, cap, cur, rfl, hbg, hg, hnc, hcm', hcs, htake⟩
  · have hxs : xs = [] := List.eq_nil_of_length_eq_zero (by simpa using hs.1)
    subst hxs
    by_cases hm : m = 0
    · subst hm
      have hn : news = [] := List.eq_nil_of_length_eq_zero (by simpa using hl)
      subst hn
      refine ⟨.slice b 0 0, w, ?_, SlAt.nil _ _ _ _ _, Chg.refl _ _⟩
      have hl0 : ∀ (x : Addr), (loadCells x 0).run P w = .ok #[] w := fun x => by simpa using run_loadCells_list (P := P) w x [] (by simp)
      cases a <;> cases b <;> simp [Builtin.append_, run_underlying ht, sizeOf, typeInfo, hi, Builtin.lenOf, Builtin.firstCells, storeCells, hl0]
    · have hpos : 0 < m := Nat.pos_of_ne_zero hm
      obtain ⟨ad, rfl, hcell⟩ := hnews hpos
      have hpos2 : 0 < 0 + m := by rw [Nat.zero_add]; exact hpos
      have hsm2 : (m : Int) ≤ 9223372036854775807 := by clear hrd hnews grown; omega
      have hsm3 : ((0 + m : Nat) : Int) ≤ 9223372036854775807 := by clear hrd hnews grown; omega
      have hb2 : m * i.bytes ≤ 281474976710656 := by have hb := hbytes; simp only [Nat.zero_add] at hb; clear hrd hnews grown; omega
      have hgr := grown 0 hpos2
      cases b with
      | none =>
        have hr := run_append_nil (P := P) w t ty e i z ht hi hz ad m c news hl hcell hpos hsm2 hb2
        simp only [Nat.zero_add, List.nil_append, Array.empty_append] at hgr ⊢
        exact ⟨_, _, hr, hgr.1, hgr.2⟩
      | some bb =>
        have hr := run_append_grow (P := P) w t ty e i z ht hi hz bb 0 0 [] (by simp) (by simp) ad m c news hl hcell hpos2 hsm3 (growslice_fits hpos2 hbytes)
        exact ⟨_, _, hr, hgr.1, hgr.2⟩
  · by_cases hroom : n + m ≤ cap
    · have hfit : off + n * i.size + news.length ≤ cur.size := by
        have := Nat.mul_le_mul_right i.size hroom
        rw [Nat.add_mul] at this
        rw [hl]; omega
      have hr := run_append_room_at (P := P) w t ty e i ht hi g off n cap cur hg a m c news hl hnews h1 hroom hfit
      refine ⟨_, _, hr, ⟨hlen, .inr ⟨g, off, cap, _, rfl, Or.inl hbg, setRow_heap w g cur _ e _ hg, hroom, hcm', ?_, ?_⟩⟩, chg_setRow (Chg.refl _ _) g _ hbg⟩
      · simp only [List.size_toArray, List.length_append, List.length_take, List.length_drop, Array.length_toList]
        omega
      · rw [Nat.add_mul, ← hl]
        exact take_splice cur.toList xs news off (n * i.size) m htake hs.1 (by simpa using hfit)
    · have holds : ∀ (j : Nat) u, xs[j]? = some u → w.cell? ((⟨g, off, none⟩ : Addr).add j) = some u := by
        intro j u hj
        rw [add_lit', cell_of_block hg]
        rw [← htake, List.getElem?_take] at hj
        split at hj
        · rw [List.getElem?_drop] at hj; simpa using hj
        · simp at hj
      by_cases hm : m = 0
      · subst hm; omega
      · obtain ⟨ad, rfl, hcell⟩ := hnews (by omega)
        have hr := run_append_grow (P := P) w t ty e i z ht hi hz ⟨g, off, none⟩ n cap xs hs.1 holds ad m c news hl hcell (by omega) (by omega) (growslice_fits (by omega) hbytes)
        have hgr := grown cap (by omega)
        exact ⟨_, _, hr, hgr.1, hgr.2⟩

theorem wpList_append_sl {P : Program} {ops : Array Oper} {rest : List Oper} {o : Oper} {a : Act} {Q : Exit → Act → World → Prop} {w : World} (hgd : o.guard = none) (s x : Operand) (t : TypeId)
    (ho : o.op = .call { callee := .builtin .append, args := #[s, x], argTypes := #[t, t] })
    (e : TypeId) (i : TypeInfo) (z : Value) (size bytes : Nat) (ht : P.underlying t = some (.slice e)) (hi : P.info? e = some i) (hz : i.zero = some z)
    (hsize : i.size = size) (hby : i.bytes = bytes) (hzs : z.cells.size = size)
    (own : Nat → Prop) (v : Value) (n : Nat) (xs : List Value) (hsv : a.eval s = v) (hs : SlAt w own e size v n xs)
    (own2 : Nat → Prop) (y : Value) (m : Nat) (news : List Value) (hxv : a.eval x = y) (hx : RdAt w own2 size y m news) (h1 : ∀ u ∈ news, u.oneCell' = true)
    (h63 : n + m ≤ maxLen) (hbytes : (n + m) * bytes ≤ 140737488355328)
    (h : ∀ v' w', SlAt w' (fun k => own k ∨ k = w.heap.size) e size v' (n + m) (xs ++ news) → Chg own w w' → wpList P ops Q rest (a.put o.dst v') w') : wpList P ops Q (o :: rest) a w := by
  refine wpList_plain hgd fun K hK => ?_
  obtain ⟨v', w', hrun, h2, h3⟩ := run_append_sl (P := P) w t o.type e i z size bytes ht hi hz hsize hby hzs own v n xs hs own2 y m news hx h1 h63 hbytes
  unfold Oper.wp
  simp [execOp, ho, resolve, invoke, builtin, hsv, hxv, hrun, Result.andThen]
  exact hK _ _ (h v' w' h2 h3)

/-- the same, as one step of a region that draws its order -/
theorem step_append_sl {P : Program} {ops : Array Oper} {o : Oper} {a : Act} {K : Act → World → Prop} {Q : Exit → Act → World → Prop} {w : World} {E : Prop} (hgd : o.guard = none) (s x : Operand) (t : TypeId)
    (ho : o.op = .call { callee := .builtin .append, args := #[s, x], argTypes := #[t, t] })
    (e : TypeId) (i : TypeInfo) (z : Value) (size bytes : Nat) (ht : P.underlying t = some (.slice e)) (hi : P.info? e = some i) (hz : i.zero = some z)
    (hsize : i.size = size) (hby : i.bytes = bytes) (hzs : z.cells.size = size)
    (own : Nat → Prop) (v : Value) (n : Nat) (xs : List Value) (hsv : a.eval s = v) (hs : SlAt w own e size v n xs)
    (own2 : Nat → Prop) (y : Value) (m : Nat) (news : List Value) (hxv : a.eval x = y) (hx : RdAt w own2 size y m news) (h1 : ∀ u ∈ news, u.oneCell' = true)
    (h63 : n + m ≤ maxLen) (hbytes : (n + m) * bytes ≤ 140737488355328)
    (h : ∀ v' w', SlAt w' (fun k => own k ∨ k = w.heap.size) e size v' (n + m) (xs ++ news) → Chg own w w' → K (a.put o.dst v') w') :
    if Region.wanted o (yielded ops a.tmps) = true then Oper.wp P o a w K Q else E := by
  have hw : Region.wanted o (yielded ops a.tmps) = true := by simp [Region.wanted, hgd]
  rw [if_pos hw]
  obtain ⟨v', w', hrun, h2, h3⟩ := run_append_sl (P := P) w t o.type e i z size bytes ht hi hz hsize hby hzs own v n xs hs own2 y m news hx h1 h63 hbytes
  unfold Oper.wp
  simp [execOp, ho, resolve, invoke, builtin, hsv, hxv, hrun, Result.andThen]
  exact h v' w' h2 h3

/-- COPY into a block that is known whole -/
theorem run_copy_sl {P : Program} (w : World) (dT sT ty e : TypeId) (i : TypeInfo) (hu : P.underlying dT = some (.slice e)) (hi : P.info? e = some i) (hsize : i.size = 1)
    (own2 : Nat → Prop) (src : Value) (sLen : Nat) (xs : List Value) (hx : RdAt w own2 1 src sLen xs) (h1 : ∀ u ∈ xs, u.oneCell' = true)
    (dp : Option Addr) (g off dLen dCap : Nat) (cur : Array Value) (t : TypeId) (hg : 0 < Nat.min sLen dLen → dp = some ⟨g, off, none⟩ ∧ w.heap[g]? = some (.cells cur t (0, 0)) ∧ off + Nat.min sLen dLen ≤ cur.size) :
    ∃ w', (Builtin.copy_ #[dT, sT] ty #[.slice dp dLen dCap, src]).run P w = .ok (goInt (Nat.min sLen dLen)) w' ∧
      (0 < Nat.min sLen dLen → w'.heap[g]? = some (.cells (splice cur.toList off (xs.take (Nat.min sLen dLen))).toArray t (0, 0))) ∧ (Nat.min sLen dLen = 0 → w' = w) ∧ Chg (· = g) w w' := by
  obtain ⟨hl, a, cap, rfl, h2, h3, h4⟩ := hx
  by_cases h0 : Nat.min sLen dLen = 0
  · refine ⟨w, ?_, fun h => by omega, fun _ => rfl, Chg.refl _ _⟩
    rw [h0]
    exact run_copy_none (P := P) w dT sT ty e dp a dLen dCap sLen cap hu (by simp [hi, hsize]) h0
  · have hpos : 0 < Nat.min sLen dLen := Nat.pos_of_ne_zero h0
    obtain ⟨rfl, hh, hfit⟩ := hg hpos
    have hs : 0 < sLen := Nat.lt_of_lt_of_le hpos (Nat.min_le_left _ _)
    obtain ⟨gs, offs, rfl, _, _, hcell⟩ := h4 hs
    have hcl : (xs.take (Nat.min sLen dLen)).length = Nat.min sLen dLen := by
      rw [List.length_take, hl, Nat.mul_one]
      exact Nat.min_eq_left (Nat.min_le_left _ _)
    have hrun := run_copy_row (P := P) w dT sT ty e g off dLen dCap ⟨gs, offs, none⟩ sLen cap cur t (xs.take (Nat.min sLen dLen)) hu (by simp [hi, hsize]) hh hcl
      (fun j v hj => by
        rw [List.getElem?_take] at hj
        split at hj
        · rw [add_lit']; exact hcell j v hj
        · simp at hj) (by rw [hcl]; exact hfit) (fun v hv => h1 v (List.mem_of_mem_take hv))
    rw [hcl] at hrun
    refine ⟨_, hrun, fun _ => ?_, fun h => absurd h h0, ?_⟩
    · have := setRow_heap w g cur (cur.toList.take off ++ xs.take (Nat.min sLen dLen) ++ cur.toList.drop (off + Nat.min sLen dLen)).toArray t _ hh
      rw [this]
      simp only [splice, hcl, List.append_assoc]
    · exact chg_setRow (Chg.refl _ _) g _ rfl
theorem wpList_copy_sl {P : Program} {ops : Array Oper} {rest : List Oper} {o : Oper} {a : Act} {Q : Exit → Act → World → Prop} {w : World} (hgd : o.guard = none) (d s : Operand) (dT sT : TypeId)
    (ho : o.op = .call { callee := .builtin .copy, args := #[d, s], argTypes := #[dT, sT] })
    (e : TypeId) (i : TypeInfo) (hu : P.underlying dT = some (.slice e)) (hi : P.info? e = some i) (hsize : i.size = 1)
    (own2 : Nat → Prop) (src : Value) (sLen : Nat) (xs : List Value) (hsv : a.eval s = src) (hx : RdAt w own2 1 src sLen xs) (h1 : ∀ u ∈ xs, u.oneCell' = true)
    (dp : Option Addr) (g off dLen dCap : Nat) (cur : Array Value) (t : TypeId) (hdv : a.eval d = .slice dp dLen dCap) (hg : 0 < Nat.min sLen dLen → dp = some ⟨g, off, none⟩ ∧ w.heap[g]? = some (.cells cur t (0, 0)) ∧ off + Nat.min sLen dLen ≤ cur.size)
    (h : ∀ w', (0 < Nat.min sLen dLen → w'.heap[g]? = some (.cells (splice cur.toList off (xs.take (Nat.min sLen dLen))).toArray t (0, 0))) → (Nat.min sLen dLen = 0 → w' = w) → Chg (· = g) w w' → wpList P ops Q rest (a.put o.dst (goInt (Nat.min sLen dLen))) w') :
    wpList P ops Q (o :: rest) a w := by
  refine wpList_plain hgd fun K hK => ?_
  obtain ⟨w', hrun, h2, h3, h4⟩ := run_copy_sl (P := P) w dT sT o.type e i hu hi hsize own2 src sLen xs hx h1 dp g off dLen dCap cur t hg
  unfold Oper.wp
  simp [execOp, ho, resolve, invoke, builtin, hsv, hdv, hrun, Result.andThen]
  exact hK _ _ (h w' h2 h3 h4)
theorem step_copy_sl {P : Program} {ops : Array Oper} {o : Oper} {a : Act} {K : Act → World → Prop} {Q : Exit → Act → World → Prop} {w : World} {E : Prop} (hgd : o.guard = none) (d s : Operand) (dT sT : TypeId)
    (ho : o.op = .call { callee := .builtin .copy, args := #[d, s], argTypes := #[dT, sT] })
    (e : TypeId) (i : TypeInfo) (hu : P.underlying dT = some (.slice e)) (hi : P.info? e = some i) (hsize : i.size = 1)
    (own2 : Nat → Prop) (src : Value) (sLen : Nat) (xs : List Value) (hsv : a.eval s = src) (hx : RdAt w own2 1 src sLen xs) (h1 : ∀ u ∈ xs, u.oneCell' = true)
    (dp : Option Addr) (g off dLen dCap : Nat) (cur : Array Value) (t : TypeId) (hdv : a.eval d = .slice dp dLen dCap) (hg : 0 < Nat.min sLen dLen → dp = some ⟨g, off, none⟩ ∧ w.heap[g]? = some (.cells cur t (0, 0)) ∧ off + Nat.min sLen dLen ≤ cur.size)
    (h : ∀ w', (0 < Nat.min sLen dLen → w'.heap[g]? = some (.cells (splice cur.toList off (xs.take (Nat.min sLen dLen))).toArray t (0, 0))) → (Nat.min sLen dLen = 0 → w' = w) → Chg (· = g) w w' → K (a.put o.dst (goInt (Nat.min sLen dLen))) w') :
    if Region.wanted o (yielded ops a.tmps) = true then Oper.wp P o a w K Q else E := by
  have hw : Region.wanted o (yielded ops a.tmps) = true := by simp [Region.wanted, hgd]
  rw [if_pos hw]
  obtain ⟨w', hrun, h2, h3, h4⟩ := run_copy_sl (P := P) w dT sT o.type e i hu hi hsize own2 src sLen xs hx h1 dp g off dLen dCap cur t hg
  unfold Oper.wp
  simp [execOp, ho, resolve, invoke, builtin, hsv, hdv, hrun, Result.andThen]
  exact h w' h2 h3 h4

/-- a call of a Go function, as one step of a region that draws its order -/
theorem step_call_fn {P : Program} {ops : Array Oper} {o : Oper} {a : Act} {K : Act → World → Prop} {Q : Exit → Act → World → Prop} {w : World} {E : Prop} (hgd : o.guard = none) (f : FuncId) (fn : Func) (xs : Array Operand) (ats : Array TypeId)
    (ho : o.op = .call { callee := .value (.func f), args := xs, argTypes := ats }) (hf : P.funcs[f]? = some fn) (hnm : (fn.name == "runtime.NumGoroutine") = false) (hbd : fn.body.isNone = false)
    (vals : Array Value) (hv : xs.map a.eval = vals)
    (h : Calls P f vals w fun e w' => ∃ v, e = .returned v ∧ K (a.put o.dst v) w') :
    if Region.wanted o (yielded ops a.tmps) = true then Oper.wp P o a w K Q else E := by
  have hw : Region.wanted o (yielded ops a.tmps) = true := by simp [Region.wanted, hgd]
  rw [if_pos hw]
  have hrun : (execOp a.eval o).run P w = .ok (.enter f vals) w := by
    have e : execOp a.eval o = callFunc f (#[] ++ xs.map a.eval ++ #[]) := by simp only [execOp, ho]; rfl
    rw [e, hv]
    have hb2 : fn.body ≠ none := by intro e; rw [e] at hbd; simp at hbd
    simp only [callFunc]
    simp [hf, hnm, hb2, program, Sem.run]
    simpa using hnm
  unfold Oper.wp
  rw [hrun]
  refine h.mono ?_
  rintro e w' ⟨v, rfl, hk⟩
  exact hk

theorem Chg.cellOf {own : Nat → Prop} {w w' : World} {p : Addr} {v : Value} (h : Chg own w w') (hc : w.cell? p = some v) (ho : ¬ own p.block) : w'.cell? p = some v := (h.cell (cell_lt hc) ho).trans hc
theorem Chg.freeOf {own : Nat → Prop} {w w' : World} {p : Addr} {v : Value} (h : Chg own w w') (hc : w.cell? p = some v) (hf : w.frozen? p = false) (ho : ¬ own p.block) : w'.frozen? p = false := (h.frozen (cell_lt hc) ho).trans hf
theorem rd_new (w : World) (cs : List Value) (t : TypeId) (size n : Nat) (h : cs.length = n * size) (hm : n ≤ maxLen) : RdAt (w.alloc (.cells cs.toArray t)) (fun k => k = w.heap.size) size (.slice (some ⟨w.heap.size, 0, none⟩) n n) n cs := by
  refine ⟨h, _, _, rfl, Nat.le_refl _, hm, fun _ => ⟨w.heap.size, 0, rfl, rfl, by simp, ?_⟩⟩
  intro j u hj
  rw [cell_of_block (block_new _ _)]
  simpa using hj

theorem RdAt.get {w : World} {own : Nat → Prop} {size : Nat} {a : Option Addr} {n cap : Nat} {xs : List Value} (h : RdAt w own size (.slice a n cap) n xs) (hn : 0 < n) :
    ∃ g off, a = some ⟨g, off, none⟩ ∧ own g ∧ g < w.heap.size ∧ ∀ (j : Nat) u, xs[j]? = some u → w.cell? ⟨g, off + j, none⟩ = some u := by
  obtain ⟨h1, a', cap', e, _, _, h2⟩ := h
  injection e with e1 _ _
  subst e1
  exact h2 hn
theorem RdAt.len {w : World} {own : Nat → Prop} {size : Nat} {v : Value} {n : Nat} {xs : List Value} (h : RdAt w own size v n xs) : xs.length = n * size := h.1
theorem RdAt.shape {w : World} {own : Nat → Prop} {size : Nat} {v : Value} {n : Nat} {xs : List Value} (h : RdAt w own size v n xs) : ∃ a cap, v = .slice a n cap ∧ n ≤ maxLen := by
  obtain ⟨_, a, cap, rfl, h1, h2, _⟩ := h; exact ⟨a, cap, rfl, by omega⟩

theorem rd_newG {w : World} {cs : List Value} {t : TypeId} {size n g : Nat} (hg : g = w.heap.size) (h : cs.length = n * size) (hm : n ≤ maxLen) : RdAt (w.alloc (.cells cs.toArray t)) (fun k => k = g) size (.slice (some ⟨g, 0, none⟩) n n) n cs := by
  subst hg; exact rd_new w cs t size n h hm
end Go.Proofs.YthmimbmlcihkaaaGreat
