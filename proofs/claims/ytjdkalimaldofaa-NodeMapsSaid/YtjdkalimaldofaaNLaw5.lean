/-
  NodeMaps: the walk.
-/
import Derived.Test.YtjdkalimaldofaaNMaps1
import Derived.Test.YtjdkalimaldofaaNPutErr
import Derived.Test.YtjdkalimaldofaaNLives
import Derived.Test.YtjdkalimaldofaaNSpoilt
import Derived.Deep.CutRange
import Derived.Deep.CutBlock
namespace Go.Proofs.Ytjdkalimaldofaa
open Go.RowKit
set_option linter.unusedSimpArgs false
set_option linter.unusedVariables false
/-- a put, or a remove -/
structure OpE where
  key : ByteArray
  value : ByteArray
  gone : Bool
def OpsIn (w : World) (g off : Nat) (l : List OpE) : Prop := g < w.heap.size ∧ ∀ i (h : i < l.length), w.cell? ⟨g, off + i * 3, none⟩ = some (.string l[i].key) ∧ w.cell? ⟨g, off + i * 3 + 1, none⟩ = some (.string l[i].value) ∧ w.cell? ⟨g, off + i * 3 + 2, none⟩ = some (.bool l[i].gone)
/-- the law's own memory, round for round -/
structure MapAt (w : World) (D : Nat) (m : ND) (ka : Option Addr) (kc : Nat) (va : Option Addr) (vc : Nat) (ia : Option Addr) (ic : Nat) (a4 : Option Addr) (c4 : Nat) (a5 : Option Addr) (c5 : Nat) (N K V : Nat → Prop) : Prop where
  box : w.heap[D]? = some (.cells #[.bool true, .slice ka m.keys.length kc, .slice va m.values.length vc, .slice ia m.kids.length ic] 25 (0, 0))
  node : NodeIn w N m ka kc va vc ia ic
  keys : SlAt w K 9 1 (.slice a4 m.keys.length c4) m.keys.length (tcells m.keys)
  values : SlAt w V 9 1 (.slice a5 m.values.length c5) m.values.length (tcells m.values)
  right : m.Right
  nk : ∀ j, N j → ¬ K j
  nv : ∀ j, N j → ¬ V j
  kv : ∀ j, K j → ¬ V j
  top : ∀ j, N j ∨ K j ∨ V j → D < j ∧ j < w.heap.size
theorem keepN {a b : World} (k : Bl a b) {g : Nat} {o : Obj} (h : a.heap[g]? = some o) : b.heap[g]? = some o := below_keeps k h (lt_of_block h)
theorem block_set4 {w : World} {b : Nat} {p0 p1 p2 p3 : Value} {t : TypeId} {fr : Nat × Nat} (h : w.heap[b]? = some (.cells #[p0, p1, p2, p3] t fr)) (u0 u1 u2 u3 : Value) :
    ((((w.setCell ⟨b, 0, none⟩ u0).setCell ⟨b, 1, none⟩ u1).setCell ⟨b, 2, none⟩ u2).setCell ⟨b, 3, none⟩ u3).heap[b]? = some (.cells #[u0, u1, u2, u3] t fr) := by
  have h0 := block_set h 0 u0
  have h1 := block_set h0 1 u1
  have h2 := block_set h1 2 u2
  exact block_set h2 3 u3
theorem rd_key {W : World} {g : Nat} {key : ByteArray} (h : W.heap[g]? = some (.cells #[.string key] 9 (0, 0))) : RdAt W (fun _ => True) 1 (.slice (some ⟨g, 0, none⟩) 1 1) 1 (tcells [key]) := by
  refine ⟨rfl, _, 1, rfl, Nat.le_refl _, by unfold maxLen; omega, fun _ => ⟨g, 0, rfl, trivial, lt_of_block h, fun j u hj => ?_⟩⟩
  rw [cell_of_block h, Nat.zero_add]
  simpa [tcells] using hj
theorem keep_new {a b : World} (k : Bl a b) {g : Nat} {o : Obj} (h : a.heap[g]? = some o) : b.heap[g]? = some o := below_keeps k h (lt_of_block h)
theorem put_right {m : ND} {key value : ByteArray} {r : Nat} (hr : m.Right) (hat : m.at key r) (hkl : m.keys.length ≤ 8796093022206) (hkz : key.size ≤ 9223372036854775807) (hxz : value.size ≤ 9223372036854775807) : ∃ (C : Int) (M3 : ND),
    (∀ (W : World) (own : Nat → Prop) (v : Value), NodeAt W own v m → Calls Try.prog 25 #[v, .string key, .string value] W fun e w' => (∃ u, e = .returned (.tuple #[u, .int .i64 C]) ∧ OwnNode w' W.heap.size u M3) ∧ Bl W w') ∧
    ((C = 0 ∧ keyOk key = true ∧ valOk value = true ∧ M3 = m.put key value r) ∨ (C = 91 ∧ (keyOk key = false ∨ valOk value = false))) := by
  obtain ⟨hl, hv, hi, hu⟩ := hr.parts
  have sm : m.Small := ⟨by omega, by omega, by rw [hi]; simp⟩
  have ln := ND.Lens.of hl
  cases hk : keyOk key
  · exact ⟨91, .empty, fun W own v h => put_badkey W own v m key value h sm ln hkz hxz hr.leaf hr.check hk, Or.inr ⟨rfl, Or.inl rfl⟩⟩
  · cases hx : valOk value
    · exact ⟨91, .empty, fun W own v h => put_badvalue W own v m key value h sm ln hkz hxz hr.leaf hr.check hk hx, Or.inr ⟨rfl, Or.inr rfl⟩⟩
    · refine ⟨0, m.put key value r, fun W own v h => ?_, Or.inl ⟨rfl, rfl, rfl, rfl⟩⟩
      refine (put_leaf W own v m key value h sm ln hr.check hr.leaf hk hx (by omega)).mono ?_
      rintro e w' ⟨⟨u, q, rfl, hq, ho⟩, k⟩
      rw [First.uniq hq hat] at ho
      exact ⟨⟨u, rfl, ho⟩, k⟩
theorem own_in {w5 w' : World} {base lo B9 : Nat} {M2 : ND} {ka5 : Option Addr} {kc5 : Nat} {va5 : Option Addr} {vc5 : Nat} {ia5 : Option Addr} {ic5 : Nat} {K5 V5 I5 : Nat → Prop} (hsl : NodeSl w5 K5 V5 I5 M2 ka5 kc5 va5 vc5 ia5 ic5) (hap : Apart3 base K5 V5 I5) (htp : ∀ j, K5 j ∨ V5 j ∨ I5 j → j < w5.heap.size)
    (hlo : lo ≤ base) (hc : Chg (fun j => j = B9) w5 w') (hB : B9 < base ∨ w5.heap.size ≤ B9) : NodeIn w' (fun j => lo ≤ j ∧ j < w'.heap.size ∧ j ≠ B9) M2 ka5 kc5 va5 vc5 ia5 ic5 := by
  have hs := hc.size
  refine ⟨((hsl.keys.chg hc (fun j hj e => ?_)).mono (fun j _ hj => ?_)).rd, ((hsl.values.chg hc (fun j hj e => ?_)).mono (fun j _ hj => ?_)).rd, ((hsl.kids.chg hc (fun j hj e => ?_)).mono (fun j _ hj => ?_)).rd⟩
  · have h1 := hap.k j hj; have h2 := htp j (Or.inl hj); omega
  · have h1 := hap.k j hj; have h2 := htp j (Or.inl hj); exact ⟨by omega, by omega, by omega⟩
  · have h1 := hap.v j hj; have h2 := htp j (Or.inr (Or.inl hj)); omega
  · have h1 := hap.v j hj; have h2 := htp j (Or.inr (Or.inl hj)); exact ⟨by omega, by omega, by omega⟩
  · have h1 := hap.i j hj; have h2 := htp j (Or.inr (Or.inr hj)); omega
  · have h1 := hap.i j hj; have h2 := htp j (Or.inr (Or.inr hj)); exact ⟨by omega, by omega, by omega⟩
theorem MapAt.bl {w w' : World} {D : Nat} {m : ND} {ka : Option Addr} {kc : Nat} {va : Option Addr} {vc : Nat} {ia : Option Addr} {ic : Nat} {a4 : Option Addr} {c4 : Nat} {a5 : Option Addr} {c5 : Nat} {N K V : Nat → Prop} (h : MapAt w D m ka kc va vc ia ic a4 c4 a5 c5 N K V) (k : Bl w w') : MapAt w' D m ka kc va vc ia ic a4 c4 a5 c5 N K V :=
  ⟨below_keeps k h.box (lt_of_block h.box), h.node.below k, h.keys.below k, h.values.below k, h.right, h.nk, h.nv, h.kv, fun j hj => ⟨(h.top j hj).1, Nat.lt_of_lt_of_le (h.top j hj).2 k.size⟩⟩
set_option maxRecDepth 100000 in
set_option maxHeartbeats 40000000 in
theorem maps_any (w : World) (v : Value) (l : List OpE) (c : Nat) (a : Option Addr) (hv : v = .slice a l.length c) (hlen : l.length ≤ 8796093022206) (hin : 0 < l.length → ∃ g off, a = some ⟨g, off, none⟩ ∧ OpsIn w g off l) (hsz : ∀ o ∈ l, o.key.size ≤ 9223372036854775807 ∧ o.value.size ≤ 9223372036854775807) :
    Calls Try.prog 7 #[v] w fun e w' => e = .returned (.bool true) ∧ Bl w w' := by
  subst hv
  have HIN : Hid (0 < l.length → ∃ g off, a = some ⟨g, off, none⟩ ∧ ∀ W, Bl w W → ∀ i (h : i < l.length), W.cell? ⟨g, off + i * 3, none⟩ = some (.string l[i].key) ∧ W.cell? ⟨g, off + i * 3 + 1, none⟩ = some (.string l[i].value) ∧ W.cell? ⟨g, off + i * 3 + 2, none⟩ = some (.bool l[i].gone)) := fun h0 => by
    obtain ⟨g, off, e, hg, q⟩ := hin h0
    exact ⟨g, off, e, fun W k i h => ⟨(k.cell (p := ⟨g, _, none⟩) hg).trans (q i h).1, (k.cell (p := ⟨g, _, none⟩) hg).trans (q i h).2.1, (k.cell (p := ⟨g, _, none⟩) hg).trans (q i h).2.2⟩⟩
  have HSZ := Lib.hid hsz
  have HLEN := Lib.hid hlen
  clear hin hsz
  obtain ⟨i9, hi9, hz90, hz91, hz92⟩ := info_parts info9
  go_enter Try.func7, Try.ntmps7
  go_wp2_with fail
  refine (lives_any w).mono ?_
  rintro e w2 ⟨rfl, k2⟩
  go_wp2_with fail
  have A3 : Bl w2 (w2.alloc (.cells #[.bool true, .slice none 0 0, .slice none 0 0, .slice none 0 0] 25)) := (Bl.refl _).alloc _
  have b3 : (w2.alloc (.cells #[.bool true, .slice none 0 0, .slice none 0 0, .slice none 0 0] 25)).heap[w2.heap.size]? = some (.cells #[.bool true, .slice none 0 0, .slice none 0 0, .slice none 0 0] 25 (0, 0)) := block_new _ _
  have K3 := k2.trans A3
  generalize hW3 : w2.alloc (.cells #[.bool true, .slice none 0 0, .slice none 0 0, .slice none 0 0] 25) = w3 at *
  generalize hD : w2.heap.size = D at *
  clear hW3 A3
  have s2 := k2.size
  rw [hD] at s2
  have HD : Hid (w.heap.size ≤ D) := s2
  clear k2 s2 hD
  go_loopw [4, 5, 6, 7, 8, 9, 10, 11, 12] (fun v4 v5 i _ _ _ _ _ _ wr => ∃ (k : Nat) (m : ND) (ka : Option Addr) (kc : Nat) (va : Option Addr) (vc : Nat) (ia : Option Addr) (ic : Nat) (a4 : Option Addr) (c4 : Nat) (a5 : Option Addr) (c5 : Nat) (N K V : Nat → Prop), k ≤ l.length ∧ i = .int .i64 k ∧ v4 = .slice a4 m.keys.length c4 ∧ v5 = .slice a5 m.values.length c5 ∧ m.keys.length ≤ k ∧ MapAt wr D m ka kc va vc ia ic a4 c4 a5 c5 N K V ∧ Bl w wr) (fun _ _ i _ _ _ _ _ _ _ => l.length - (intOf i).toNat)
  case atStart =>
    exact ⟨0, ⟨true, [], [], []⟩, none, 0, none, 0, none, 0, none, 0, none, 0, (fun _ => False), (fun _ => False), (fun _ => False), Nat.zero_le _, rfl, rfl, rfl, Nat.zero_le _, ⟨b3, ⟨(SlAt.nil _ _ 9 _ _).rd, (SlAt.nil _ _ 9 _ _).rd, (SlAt.nil _ _ 3 _ _).rd⟩, SlAt.nil _ _ _ _ _, SlAt.nil _ _ _ _ _, ND.Right.of rfl rfl rfl rfl (ups_yes (fun j h => by simp at h)), fun _ h => h.elim, fun _ h => h.elim, fun _ h => h.elim, fun _ h => by rcases h with h | h | h <;> exact h.elim⟩, K3⟩
  case round =>
    obtain ⟨k, m, ka, kc, va, vc, ia, ic, a4, c4, a5, c5, N, K, V, hk, rfl, rfl, rfl, hmk, hM, kwr⟩ := hrel
    clear b3 K3
    have i0 : (0 : Int) ≤ (k : Int) := by omega
    have jk9 : (k : Int) ≤ 8796093022206 := by omega
    by_cases hlt : k < l.length
    · have i1 : (k : Int) < (l.length : Int) := by omega
      obtain ⟨g, off, rfl, hcell⟩ := HIN.out (by omega)
      have HC : Hid (∀ W, Bl w W → W.cell? ⟨g, off + k * 3, none⟩ = some (.string l[k].key) ∧ W.cell? ⟨g, off + k * 3 + 1, none⟩ = some (.string l[k].value) ∧ W.cell? ⟨g, off + k * 3 + 2, none⟩ = some (.bool l[k].gone)) := fun W q => hcell W q k hlt
      have HKS : Hid (l[k].key.size ≤ 9223372036854775807 ∧ l[k].value.size ≤ 9223372036854775807) := HSZ.out _ (List.getElem_mem hlt)
      clear hcell HIN
      generalize l[k].key = key at *
      generalize l[k].value = value at *
      generalize l[k].gone = gone at *
      go_upto_block 2 with fail
      go_cut [7] from 16 to 198 (fun q wx => ∃ r : Nat, q = .int .i64 r ∧ m.at key r ∧ Bl wr wx)
      case first =>
        as_aux_lemma =>
          go_wp2_with fail
          go_loopw [7] (fun q wx => ∃ r : Nat, r ≤ m.keys.length ∧ q = .int .i64 r ∧ (∀ j, j < r → lessB (atL m.keys j) key = true) ∧ Bl wr wx) (fun q _ => m.keys.length - (intOf q).toNat)
          case atStart => exact ⟨0, by omega, rfl, fun j hj => by omega, Bl.refl _⟩
          case round =>
            obtain ⟨r, hr, rfl, hle, kwx⟩ := hrel
            have HLE := Lib.hid hle
            clear hle
            have r0 : (0 : Int) ≤ (r : Int) := by omega
            have r9 : (r : Int) ≤ 8796093022206 := by omega
            obtain ⟨e0, e1, e2⟩ := HC.out _ (kwr.trans kwx)
            by_cases hlr : r < m.keys.length
            · obtain ⟨g4, off4, rfl, _, hg4, hc4⟩ := ((hM.keys).below kwx).rd.get (by omega)
              have c1 := hc4 r _ (tcells_get hlr)
              clear hc4
              have r1 : (r : Int) < (m.keys.length : Int) := by omega
              have HB : Hid (lessB (atL m.keys r) key = Op.bytesLess m.keys[r].toList key.toList) := by show _ = _; rw [atL_get hlr]; rfl
              cases hl : Op.bytesLess m.keys[r].toList key.toList with
              | true =>
                as_aux_lemma =>
                  have HN : Hid (∀ j, j < r + 1 → lessB (atL m.keys j) key = true) := fun j hj => by
                    by_cases e : j = r
                    · subst e; rw [HB.out, hl]
                    · exact HLE.out j (by omega)
                  go_wp2_with fail
                  go_quiet (fail)
                  all_goals go_wp2_with fail
                  all_goals go_roundw
                  all_goals first | (case rel => exact ⟨r + 1, by omega, by go_num, HN.out, kwx.drewN _⟩) | (case measure => simp [intOf]; omega)
              | false =>
                as_aux_lemma =>
                  have HR : Hid (m.at key r) := ⟨by omega, fun j hj => by simp [HLE.out j hj], fun _ => by simp [HB.out, hl]⟩
                  go_wp2_with fail
                  go_quiet (fail)
                  all_goals go_wp2_with fail
                  all_goals go_meet
                  case rel => exact ⟨r, rfl, HR.out, kwx.drewN _⟩
            · obtain rfl : r = m.keys.length := by omega
              have r1 : ¬ (m.keys.length : Int) < (m.keys.length : Int) := by omega
              have HR : Hid (m.at key m.keys.length) := ⟨by omega, fun j hj => by simp [HLE.out j hj], fun h => by omega⟩
              go_wp2_with fail
              go_quiet (fail)
              all_goals go_wp2_with fail
              all_goals go_meet
              case rel => exact ⟨m.keys.length, rfl, HR.out, kwx.drewN _⟩
      case rest =>
        obtain ⟨r, rfl, hat, kwc⟩ := hcut
        have hrl := hat.le
        have r0 : (0 : Int) ≤ (r : Int) := by omega
        have r9 : (r : Int) ≤ 8796093022206 := by omega
        have HAT := Lib.hid hat
        clear hat
        go_upto_region 11 with fail
        go_cut [8] from 16 to 198 (fun q wx => q = .bool (m.finds key r) ∧ Bl wr wx)
        case first =>
          as_aux_lemma =>
            obtain ⟨e0, e1, e2⟩ := HC.out _ (kwr.trans kwc)
            by_cases hlr : r < m.keys.length
            · obtain ⟨g4, off4, rfl, _, hg4, hc4⟩ := ((hM.keys).below kwc).rd.get (by omega)
              have c1 := hc4 r _ (tcells_get hlr)
              clear hc4
              have r1 : (r : Int) < (m.keys.length : Int) := by omega
              have HE : Hid (m.finds key r = (m.keys[r].toList == key.toList)) := by show _ = _; simp [ND.finds, hlr, atL_get hlr, eqB]
              go_quiet (fail)
              all_goals go_wp2_with fail
              all_goals go_meet
              case rel => exact ⟨by rw [HE.out], kwc.drewN _⟩
            · have r1 : ¬ (r : Int) < (m.keys.length : Int) := by omega
              have HE : Hid (m.finds key r = false) := by show _ = _; simp [ND.finds, hlr]
              go_quiet (fail)
              all_goals go_wp2_with fail
              all_goals go_meet
              case rel => exact ⟨by rw [HE.out], kwc.drewN _⟩
        case rest =>
          obtain ⟨rfl, kwd⟩ := hcut
          obtain ⟨wd, rfl⟩ : ∃ x, x = wc := ⟨wc, rfl⟩
          have hM := hM.bl kwd
          have kwr := kwr.trans kwd
          clear kwc kwd
          obtain ⟨e0, e1, e2⟩ := HC.out _ kwr
          obtain ⟨x0, x1, x2, x3, f0, f1, f2, f3⟩ := cells4 hM.box
          have HMM := Lib.hid hM
          have hff : (m.finds key r != m.finds key r) = false := by simp
          have lD := lt_of_block hM.box
          cases gone with
          | true =>
            as_aux_lemma =>
              go_upto_region 13 with fail
              have FK : Hid (∀ w', Bl wd w' → w'.cell? ⟨D, 0, none⟩ = some (.bool true) ∧ w'.cell? ⟨D, 1, none⟩ = some (.slice ka m.keys.length kc) ∧ w'.cell? ⟨D, 2, none⟩ = some (.slice va m.values.length vc) ∧ w'.cell? ⟨D, 3, none⟩ = some (.slice ia m.kids.length ic) ∧ w'.cell? ⟨g, off + k * 3, none⟩ = some (.string key)) := fun w' q => by
                have c := cells4 (below_keeps q HMM.out.box (lt_of_block HMM.out.box))
                exact ⟨c.1, c.2.1, c.2.2.1, c.2.2.2.1, (HC.out _ (kwr.trans q)).1⟩
              have FM : Hid (∀ w', Bl wd w' → NodeAt w' N (.agg #[.bool true, .slice ka m.keys.length kc, .slice va m.values.length vc, .slice ia m.kids.length ic]) m) := fun w' q => ⟨ka, kc, va, vc, ia, ic, by unfold nodeV; rw [HMM.out.right.leaf], HMM.out.node.below q⟩
              have SM : Hid m.Small := ⟨by omega, by have := HMM.out.right.parts.2.1; omega, by rw [HMM.out.right.parts.2.2.1]; simp⟩
              obtain ⟨M2, hM2⟩ : ∃ M2, M2 = (if m.finds key r = true then m.without r else m) := ⟨_, rfl⟩
              have HM2 := Lib.hid hM2
              clear hM hM2
              go_cut [9, 10] from 16 to 198 (fun p9 q10 wx => ∃ (B9 : Nat) (ka5 : Option Addr) (kc5 : Nat) (va5 : Option Addr) (vc5 : Nat) (ia5 : Option Addr) (ic5 : Nat), p9 = .pointer (some ⟨B9, 0, none⟩) ∧ q10 = .bool (m.finds key r) ∧ wx.heap[B9]? = some (.cells #[.bool M2.leaf, .slice ka5 M2.keys.length kc5, .slice va5 M2.values.length vc5, .slice ia5 M2.kids.length ic5] 25 (0, 0)) ∧ NodeIn wx (fun j => wd.heap.size ≤ j ∧ j < wx.heap.size ∧ j ≠ B9) M2 ka5 kc5 va5 vc5 ia5 ic5 ∧ wd.heap.size ≤ B9 ∧ Bl wd wx)
              case first =>
                as_aux_lemma =>
                  go_region_held3 (fun w' => w'.cell? ⟨D, 0, none⟩ = some (.bool true) ∧ w'.cell? ⟨D, 1, none⟩ = some (.slice ka m.keys.length kc) ∧ w'.cell? ⟨D, 2, none⟩ = some (.slice va m.values.length vc) ∧ w'.cell? ⟨D, 3, none⟩ = some (.slice ia m.kids.length ic) ∧ w'.cell? ⟨g, off + k * 3, none⟩ = some (.string key)) (first | exact FK.out _ (Bl.chg (by ((repeat (first | with_reducible exact Bl.refl _ | with_reducible refine Bl.trans ?_ k5 | with_reducible refine Bl.alloc ?_ _ | with_reducible refine Bl.drew ?_)); done)) (chg4 (Bl.refl _) wd.heap.size _ _ _ _) (fun i hi e => by omega)) | exact FK.out _ (by ((repeat (first | with_reducible exact Bl.refl _ | with_reducible refine Bl.trans ?_ k5 | with_reducible refine Bl.alloc ?_ _ | with_reducible refine Bl.drew ?_)); done))) ((first | (go_at_call 28; refine (remove_leaf _ _ _ m key (FM.out _ (by ((repeat (first | with_reducible exact Bl.refl _ | with_reducible refine Bl.trans ?_ k5 | with_reducible refine Bl.alloc ?_ _ | with_reducible refine Bl.drew ?_)); done))) SM.out HMM.out.right.check HMM.out.right.leaf).mono ?_; rintro e w5 ⟨⟨u, r2, rfl, hat2, ho⟩, k5⟩; rw [First.uniq hat2 HAT.out] at ho ⊢; rw [← HM2.out] at ho; obtain ⟨ka5, kc5, va5, vc5, ia5, ic5, K5, V5, I5, rfl, hsl5, hap5, htp5⟩ := ho; unfold nodeV; (try (have bz : w5.heap[wd.heap.size]? = some (.cells #[.bool false, .slice none 0 0, .slice none 0 0, .slice none 0 0] 25 (0, 0)) := keepN k5 (block_new wd _); obtain ⟨z0, z1, z2, z3, g0, g1, g2, g3⟩ := cells4 bz)))))
                  all_goals go_wp2_with fail
                  all_goals go_meet
                  · exact ⟨w5.heap.size, ka5, kc5, va5, vc5, ia5, ic5, rfl, rfl, block_new _ _, own_in hsl5 hap5 htp5 (by first | exact Nat.le_refl _ | simp) ((Chg.refl _ _).alloc _) (Or.inr (Nat.le_refl _)), (show Bl wd w5 from (by ((repeat (first | with_reducible exact Bl.refl _ | with_reducible refine Bl.trans ?_ k5 | with_reducible refine Bl.alloc ?_ _ | with_reducible refine Bl.drew ?_)); done))).size, (by ((repeat (first | with_reducible exact Bl.refl _ | with_reducible refine Bl.trans ?_ k5 | with_reducible refine Bl.alloc ?_ _ | with_reducible refine Bl.drew ?_)); done))⟩
                  · exact ⟨wd.heap.size, ka5, kc5, va5, vc5, ia5, ic5, rfl, rfl, block_set4 bz _ _ _ _, own_in hsl5 hap5 htp5 (by first | exact Nat.le_refl _ | simp) (chg4 (Bl.refl _) _ _ _ _ _) (Or.inl (by simp)), Nat.le_refl _, Bl.chg (by ((repeat (first | with_reducible exact Bl.refl _ | with_reducible refine Bl.trans ?_ k5 | with_reducible refine Bl.alloc ?_ _ | with_reducible refine Bl.drew ?_)); done)) (chg4 (Bl.refl _) wd.heap.size _ _ _ _) (fun i hi e => by omega)⟩
              case rest =>
                obtain ⟨B9, ka5, kc5, va5, vc5, ia5, ic5, rfl, rfl, bB9, n9, hB9, kw9⟩ := hcut
                have hM9 := HMM.out.bl kw9
                have kwr := kwr.trans kw9
                have hdd := HMM.out.top
                have lD9 : D < wd.heap.size := lD
                have sw9 := kw9.size
                have lB9 : B9 < wc.heap.size := lt_of_block bB9
                have HM9 := Lib.hid hM9
                clear x0 x1 x2 x3 f0 f1 f2 f3 e0 e1 e2 FK FM
                cases hfd : m.finds key r with
                | true =>
                  as_aux_lemma =>
                    have hrl : r < m.keys.length := by
                      have hq := hfd
                      unfold ND.finds at hq
                      rw [Bool.and_eq_true, decide_eq_true_eq] at hq
                      exact hq.1
                    have hrv : r < m.values.length := by have := HMM.out.right.parts.2.1; omega
                    have HW : Hid (M2 = m.without r) := by
                      unfold Hid
                      rw [HM2.out, if_pos hfd]
                    have HKM : Hid (m.keys.length + 1 ≤ 8796093022209 ∧ m.values.length + 1 ≤ 8796093022209 ∧ r + 1 ≤ m.keys.length ∧ r + 1 ≤ m.values.length) := ⟨by omega, by have := HMM.out.right.parts.2.1; omega, hrl, hrv⟩
                    have hwr : IntKind.i64.wrap ((r : Int) + 1) = (r : Int) + 1 := IntWalk.i64_in _ ⟨by omega, by omega⟩
                    obtain ⟨kta, ktc, hktr, hkt⟩ := slice_to Try.underlying22 hi9 hz91 hM9.keys.rd (Nat.le_of_lt hrl)
                    obtain ⟨kfa, kfc, hkfr, hkf⟩ := slice_from Try.underlying22 hi9 hz91 hM9.keys.rd (show r + 1 ≤ m.keys.length from hrl)
                    obtain ⟨vta, vtc, hvtr, hvt⟩ := slice_to Try.underlying22 hi9 hz91 hM9.values.rd (Nat.le_of_lt hrv)
                    obtain ⟨vfa, vfc, hvfr, hvf⟩ := slice_from Try.underlying22 hi9 hz91 hM9.values.rd (show r + 1 ≤ m.values.length from hrv)
                    rw [tcells_take] at hkt hvt
                    rw [tcells_drop] at hkf hvf
                    have hkfr : ∀ W, (Instr.slice 22 (.slice a4 m.keys.length c4) (some (.int .i64 ((r : Int) + 1))) none none).run Try.prog W = .ok (.slice kfa (m.keys.length - (r + 1)) kfc) W := hkfr
                    have hvfr : ∀ W, (Instr.slice 22 (.slice a5 m.values.length c5) (some (.int .i64 ((r : Int) + 1))) none none).run Try.prog W = .ok (.slice vfa (m.values.length - (r + 1)) vfc) W := hvfr
                    have FKT : Hid (∀ w', Bl wc w' → RdAt w' K 1 (.slice kta r ktc) r (tcells (m.keys.take r))) := fun w' k => hkt.below k
                    have FKF : Hid (∀ w', Bl wc w' → RdAt w' K 1 (.slice kfa (m.keys.length - (r + 1)) kfc) (m.keys.length - (r + 1)) (tcells (m.keys.drop (r + 1)))) := fun w' k => hkf.below k
                    have FVT : Hid (∀ w', Bl wc w' → RdAt w' V 1 (.slice vta r vtc) r (tcells (m.values.take r))) := fun w' k => hvt.below k
                    have FVF : Hid (∀ w', Bl wc w' → RdAt w' V 1 (.slice vfa (m.values.length - (r + 1)) vfc) (m.values.length - (r + 1)) (tcells (m.values.drop (r + 1)))) := fun w' k => hvf.below k
                    have hbD := hM9.box
                    have HVT := Lib.hid hvtr
                    have HVF := Lib.hid hvfr
                    clear hkt hkf hvt hvf hvtr hvfr hM9
                    go_wp2_with fail
                    go_region_held3 (fun _ => True) (exact True.intro) ((first | (refine step_append_sl rfl (.tmp 79) (.tmp 83) 22 rfl 9 i9 (.string ⟨#[]⟩) 1 16 Try.underlying22 hi9 hz90 hz91 hz92 rfl (fun j => wc.heap.size ≤ j) _ (r) (tcells (m.keys.take r)) rfl (g7.below (by ((repeat (first | with_reducible exact Bl.refl _ | with_reducible refine Bl.alloc ?_ _ | with_reducible refine Bl.drew ?_)); done))) K _ (m.keys.length - (r + 1)) (tcells (m.keys.drop (r + 1))) rfl (FKF.out _ (by ((repeat (first | with_reducible exact Bl.refl _ | with_reducible exact k9 | with_reducible exact k8 | with_reducible exact k7 | with_reducible refine Bl.alloc ?_ _ | with_reducible refine Bl.drew ?_)); done))) (tcells_one _) ?_ ?_ ?_; (have := HKM.out; unfold maxLen; omega); (have := HKM.out; omega); intro v9 w9 hs hc; obtain ⟨a9, cap9, rfl⟩ := hs.shape; (have k9 : Bl wc w9 := Bl.chg (by ((repeat (first | with_reducible exact Bl.refl _ | with_reducible exact k9 | with_reducible exact k8 | with_reducible exact k7 | with_reducible refine Bl.alloc ?_ _ | with_reducible refine Bl.drew ?_)); done)) hc (fun i hi e => by omega)); (have g9 := hs.mono (own2 := fun j => wc.heap.size ≤ j) (fun j hj e => by rcases e with e | e; exact e; rw [e]; exact bl_size (by ((repeat (first | with_reducible exact Bl.refl _ | with_reducible exact k9 | with_reducible exact k8 | with_reducible exact k7 | with_reducible refine Bl.alloc ?_ _ | with_reducible refine Bl.drew ?_)); done)))); clear hs hc; (have b9 := below_keeps k9 hbD (lt_of_block hbD)); obtain ⟨x0, x1, x2, x3, f0, f1, f2, f3⟩ := cells4 b9) | (refine step_append_sl rfl (.tmp 75) (.tmp 78) 22 rfl 9 i9 (.string ⟨#[]⟩) 1 16 Try.underlying22 hi9 hz90 hz91 hz92 rfl (fun _ => False) _ 0 [] rfl (SlAt.nil _ _ _ _ _) K _ r (tcells (m.keys.take r)) rfl (FKT.out _ (by ((repeat (first | with_reducible exact Bl.refl _ | with_reducible exact k9 | with_reducible exact k8 | with_reducible exact k7 | with_reducible refine Bl.alloc ?_ _ | with_reducible refine Bl.drew ?_)); done))) (tcells_one _) ?_ ?_ ?_; (have := HKM.out; unfold maxLen; omega); (have := HKM.out; omega); intro v7 w7 hs hc; rw [Nat.zero_add, List.nil_append] at hs; obtain ⟨a7, cap7, rfl⟩ := hs.shape; (have k7 : Bl wc w7 := Bl.chg (by ((repeat (first | with_reducible exact Bl.refl _ | with_reducible exact k9 | with_reducible exact k8 | with_reducible exact k7 | with_reducible refine Bl.alloc ?_ _ | with_reducible refine Bl.drew ?_)); done)) hc (fun i hi e => e)); (have g7 := hs.mono (own2 := fun j => wc.heap.size ≤ j) (fun j hj e => by rcases e with e | e; exact e.elim; rw [e]; exact bl_size (by ((repeat (first | with_reducible exact Bl.refl _ | with_reducible exact k9 | with_reducible exact k8 | with_reducible exact k7 | with_reducible refine Bl.alloc ?_ _ | with_reducible refine Bl.drew ?_)); done)))); (have kk7 := hc.below (Nat.le_refl _) (fun _ _ e => e)); clear hs hc)))
                    all_goals
                      have FVT2 : Hid (∀ w', Bl w9 w' → RdAt w' V 1 (.slice vta r vtc) r (tcells (m.values.take r))) := fun w' q => FVT.out _ (k9.trans q)
                      have FVF2 : Hid (∀ w', Bl w9 w' → RdAt w' V 1 (.slice vfa (m.values.length - (r + 1)) vfc) (m.values.length - (r + 1)) (tcells (m.values.drop (r + 1)))) := fun w' q => FVF.out _ (k9.trans q)
                      have hvtr := HVT.out
                      have hvfr := HVF.out
                      have hbD9 := below_keeps k9 hbD (lt_of_block hbD)
                      clear x0 x1 x2 x3 f0 f1 f2 f3 FKT FKF FVT FVF hktr hkfr k7 g7 kk7 b9
                      go_wp2_with fail
                      go_region_held3 (fun _ => True) (exact True.intro) ((first | (refine step_append_sl rfl (.tmp 89) (.tmp 93) 22 rfl 9 i9 (.string ⟨#[]⟩) 1 16 Try.underlying22 hi9 hz90 hz91 hz92 rfl (fun j => w9.heap.size ≤ j) _ (r) (tcells (m.values.take r)) rfl (g12.below (by ((repeat (first | with_reducible exact Bl.refl _ | with_reducible refine Bl.alloc ?_ _ | with_reducible refine Bl.drew ?_)); done))) V _ (m.values.length - (r + 1)) (tcells (m.values.drop (r + 1))) rfl (FVF2.out _ (by ((repeat (first | with_reducible exact Bl.refl _ | with_reducible exact k14 | with_reducible exact k13 | with_reducible exact k12 | with_reducible refine Bl.alloc ?_ _ | with_reducible refine Bl.drew ?_)); done))) (tcells_one _) ?_ ?_ ?_; (have := HKM.out; unfold maxLen; omega); (have := HKM.out; omega); intro v14 w14 hs hc; obtain ⟨a14, cap14, rfl⟩ := hs.shape; (have k14 : Bl w9 w14 := Bl.chg (by ((repeat (first | with_reducible exact Bl.refl _ | with_reducible exact k14 | with_reducible exact k13 | with_reducible exact k12 | with_reducible refine Bl.alloc ?_ _ | with_reducible refine Bl.drew ?_)); done)) hc (fun i hi e => by omega)); (have g14 := hs.mono (own2 := fun j => w9.heap.size ≤ j) (fun j hj e => by rcases e with e | e; exact e; rw [e]; exact bl_size (by ((repeat (first | with_reducible exact Bl.refl _ | with_reducible exact k14 | with_reducible exact k13 | with_reducible exact k12 | with_reducible refine Bl.alloc ?_ _ | with_reducible refine Bl.drew ?_)); done)))); clear hs hc; (have b14 := below_keeps k14 hbD9 (lt_of_block hbD9)); obtain ⟨x0, x1, x2, x3, f0, f1, f2, f3⟩ := cells4 b14) | (refine step_append_sl rfl (.tmp 85) (.tmp 88) 22 rfl 9 i9 (.string ⟨#[]⟩) 1 16 Try.underlying22 hi9 hz90 hz91 hz92 rfl (fun _ => False) _ 0 [] rfl (SlAt.nil _ _ _ _ _) V _ r (tcells (m.values.take r)) rfl (FVT2.out _ (by ((repeat (first | with_reducible exact Bl.refl _ | with_reducible exact k14 | with_reducible exact k13 | with_reducible exact k12 | with_reducible refine Bl.alloc ?_ _ | with_reducible refine Bl.drew ?_)); done))) (tcells_one _) ?_ ?_ ?_; (have := HKM.out; unfold maxLen; omega); (have := HKM.out; omega); intro v12 w12 hs hc; rw [Nat.zero_add, List.nil_append] at hs; obtain ⟨a12, cap12, rfl⟩ := hs.shape; (have k12 : Bl w9 w12 := Bl.chg (by ((repeat (first | with_reducible exact Bl.refl _ | with_reducible exact k14 | with_reducible exact k13 | with_reducible exact k12 | with_reducible refine Bl.alloc ?_ _ | with_reducible refine Bl.drew ?_)); done)) hc (fun i hi e => e)); (have g12 := hs.mono (own2 := fun j => w9.heap.size ≤ j) (fun j hj e => by rcases e with e | e; exact e.elim; rw [e]; exact bl_size (by ((repeat (first | with_reducible exact Bl.refl _ | with_reducible exact k14 | with_reducible exact k13 | with_reducible exact k12 | with_reducible refine Bl.alloc ?_ _ | with_reducible refine Bl.drew ?_)); done)))); (have kk12 := hc.below (Nat.le_refl _) (fun _ _ e => e)); clear hs hc)))
                    all_goals
                      have hml : M2.leaf = true := by rw [HW.out]; exact HMM.out.right.leaf
                      have q4 : r + (m.keys.length - (r + 1)) = M2.keys.length := by rw [HW.out]; simp [ND.without]; omega
                      have q5 : r + (m.values.length - (r + 1)) = M2.values.length := by rw [HW.out]; simp [ND.without]; omega
                      have t4 : tcells (m.keys.take r) ++ tcells (m.keys.drop (r + 1)) = tcells M2.keys := by rw [HW.out]; simp [ND.without, tcells]
                      have t5 : tcells (m.values.take r) ++ tcells (m.values.drop (r + 1)) = tcells M2.values := by rw [HW.out]; simp [ND.without, tcells]
                      rw [q4, q5]
                      rw [q4, t4] at g9
                      rw [q5, t5] at g14
                      rw [hml] at bB9
                      have Q4 : Hid (M2.keys.length ≤ k + 1) := by show _ ≤ _; rw [← q4]; omega
                      have HR2 : Hid M2.Right := by
                        unfold Hid
                        rw [HW.out]
                        exact HMM.out.right.without hrl
                      clear q4 q5 t4 t5 hml hvtr hvfr k12 g12 kk12 hbD9 FVT2 FVF2
                      obtain ⟨z0, z1, z2, z3, -⟩ := cells4 (below_keeps (k9.trans k14) bB9 lB9)
                      go_wp2_with fail
                      have hc4 := chg4 (Bl.refl w14) D (.bool true) (.slice ka5 M2.keys.length kc5) (.slice va5 M2.values.length vc5) (.slice ia5 M2.kids.length ic5)
                      have bD15 := block_set4 b14 (.bool true) (.slice ka5 M2.keys.length kc5) (.slice va5 M2.values.length vc5) (.slice ia5 M2.kids.length ic5)
                      generalize ((((w14.setCell ⟨D, 0, none⟩ (.bool true)).setCell ⟨D, 1, none⟩ (.slice ka5 M2.keys.length kc5)).setCell ⟨D, 2, none⟩ (.slice va5 M2.values.length vc5)).setCell ⟨D, 3, none⟩ (.slice ia5 M2.kids.length ic5)) = w15 at *
                      have s9 := k9.size
                      have s14 := k14.size
                      have s15 := hc4.size
                      have n15 := (n9.below (k9.trans k14)).chg hc4 (fun j hj e => by omega)
                      have k15 := (g9.below k14).chg hc4 (fun j hj e => by omega)
                      have v15 := g14.chg hc4 (fun j hj e => by omega)
                      refine (same_texts w15 _ _ _ _ M2.keys n15.keys k15.rd).mono ?_
                      rintro e w16 ⟨rfl, k16⟩
                      clear x0 x1 x2 x3 f0 f1 f2 f3 z0 z1 z2 z3
                      obtain ⟨x0, x1, x2, x3, -⟩ := cells4 (below_keeps k16 bD15 (lt_of_block bD15))
                      go_wp2_with fail
                      refine (same_texts w16 _ _ _ _ M2.values (RdAt.below n15.values k16) (v15.below k16).rd).mono ?_
                      rintro e w17 ⟨rfl, k17⟩
                      have s17 := (k16.trans k17).size
                      clear x0 x1 x2 x3
                      go_wp2_with fail
                      go_roundw
                      case measure => simp [intOf]; omega
                      case rel =>
                        as_aux_lemma =>
                          refine ⟨k + 1, M2, ka5, kc5, va5, vc5, ia5, ic5, a9, cap9, a14, cap14, (fun j => wd.heap.size ≤ j ∧ j < wc.heap.size ∧ j ≠ B9), (fun j => wc.heap.size ≤ j ∧ j < w9.heap.size), (fun j => w9.heap.size ≤ j ∧ j < w14.heap.size), by omega, by go_num, rfl, rfl, Q4.out, ⟨below_keeps (k16.trans k17) bD15 (lt_of_block bD15), n15.below (k16.trans k17), ?_, ?_, HR2.out, fun j h1 h2 => by omega, fun j h1 h2 => by omega, fun j h1 h2 => by omega, fun j hj => ?_⟩, ?_⟩
                          · exact (((g9.mono (own2 := fun j => wc.heap.size ≤ j ∧ j < w9.heap.size) (fun j h1 h2 => ⟨h2, h1⟩)).below k14).chg hc4 (fun j hj e => by omega)).below (k16.trans k17)
                          · exact ((g14.mono (own2 := fun j => w9.heap.size ≤ j ∧ j < w14.heap.size) (fun j h1 h2 => ⟨h2, h1⟩)).chg hc4 (fun j hj e => by omega)).below (k16.trans k17)
                          · rcases hj with h1 | h1 | h1 <;> omega
                          · exact ((kwr.trans (k9.trans k14)).chg hc4 (fun i hi e => by have := HD.out; omega)).trans (k16.trans k17)
                | false =>
                  as_aux_lemma =>
                    have hmm : m = M2 := by rw [HM2.out, if_neg (by rw [hfd]; decide)]
                    clear HM2
                    subst hmm
                    have hM9 := HM9.out
                    rw [hM9.right.leaf] at bB9
                    obtain ⟨x0, x1, x2, x3, f0, f1, f2, f3⟩ := cells4 hM9.box
                    obtain ⟨z0, z1, z2, z3, -⟩ := cells4 bB9
                    go_wp2_with fail
                    have hc4 := chg4 (Bl.refl wc) D (.bool true) (.slice ka5 m.keys.length kc5) (.slice va5 m.values.length vc5) (.slice ia5 m.kids.length ic5)
                    have bD15 := block_set4 hM9.box (.bool true) (.slice ka5 m.keys.length kc5) (.slice va5 m.values.length vc5) (.slice ia5 m.kids.length ic5)
                    generalize ((((wc.setCell ⟨D, 0, none⟩ (.bool true)).setCell ⟨D, 1, none⟩ (.slice ka5 m.keys.length kc5)).setCell ⟨D, 2, none⟩ (.slice va5 m.values.length vc5)).setCell ⟨D, 3, none⟩ (.slice ia5 m.kids.length ic5)) = w15 at *
                    have s15 := hc4.size
                    have n15 := n9.chg hc4 (fun j hj e => by omega)
                    have k15 := hM9.keys.chg hc4 (fun j hj e => by have := hdd j (Or.inr (Or.inl hj)); omega)
                    have v15 := hM9.values.chg hc4 (fun j hj e => by have := hdd j (Or.inr (Or.inr hj)); omega)
                    refine (same_texts w15 _ _ _ _ m.keys n15.keys k15.rd).mono ?_
                    rintro e w16 ⟨rfl, k16⟩
                    clear x0 x1 x2 x3 f0 f1 f2 f3 z0 z1 z2 z3
                    obtain ⟨x0, x1, x2, x3, -⟩ := cells4 (below_keeps k16 bD15 (lt_of_block bD15))
                    go_wp2_with fail
                    refine (same_texts w16 _ _ _ _ m.values (RdAt.below n15.values k16) (v15.below k16).rd).mono ?_
                    rintro e w17 ⟨rfl, k17⟩
                    have s17 := (k16.trans k17).size
                    clear x0 x1 x2 x3
                    go_wp2_with fail
                    go_roundw
                    case measure => simp [intOf]; omega
                    case rel =>
                      as_aux_lemma =>
                        refine ⟨k + 1, m, ka5, kc5, va5, vc5, ia5, ic5, a4, c4, a5, c5, (fun j => wd.heap.size ≤ j ∧ j < wc.heap.size ∧ j ≠ B9), K, V, by omega, by go_num, rfl, rfl, by omega, ⟨below_keeps (k16.trans k17) bD15 (lt_of_block bD15), n15.below (k16.trans k17), k15.below (k16.trans k17), v15.below (k16.trans k17), HMM.out.right, fun j h1 h2 => ?_, fun j h1 h2 => ?_, HMM.out.kv, fun j hj => ?_⟩, ?_⟩
                        · have := hdd j (Or.inr (Or.inl h2)); omega
                        · have := hdd j (Or.inr (Or.inr h2)); omega
                        · rcases hj with h1 | h1 | h1
                          · omega
                          · have := hdd j (Or.inr (Or.inl h1)); omega
                          · have := hdd j (Or.inr (Or.inr h1)); omega
                        · exact (kwr.chg hc4 (fun i hi e => by have := HD.out; omega)).trans (k16.trans k17)
          | false =>
            as_aux_lemma =>
              obtain ⟨C, M3, hput, hcases⟩ := put_right HMM.out.right HAT.out (by omega) HKS.out.1 HKS.out.2
              have HPUT := Lib.hid hput
              have HCASES := Lib.hid hcases
              clear hput hcases
              go_upto_region 20 with fail
              have FK : Hid (∀ w', Bl wd w' → w'.cell? ⟨D, 0, none⟩ = some (.bool true) ∧ w'.cell? ⟨D, 1, none⟩ = some (.slice ka m.keys.length kc) ∧ w'.cell? ⟨D, 2, none⟩ = some (.slice va m.values.length vc) ∧ w'.cell? ⟨D, 3, none⟩ = some (.slice ia m.kids.length ic) ∧ w'.cell? ⟨g, off + k * 3, none⟩ = some (.string key) ∧ w'.cell? ⟨g, off + k * 3 + 1, none⟩ = some (.string value)) := fun w' q => by
                have c := cells4 (below_keeps q HMM.out.box (lt_of_block HMM.out.box))
                exact ⟨c.1, c.2.1, c.2.2.1, c.2.2.2.1, (HC.out _ (kwr.trans q)).1, (HC.out _ (kwr.trans q)).2.1⟩
              have FM : Hid (∀ w', Bl wd w' → NodeAt w' N (.agg #[.bool true, .slice ka m.keys.length kc, .slice va m.values.length vc, .slice ia m.kids.length ic]) m) := fun w' q => ⟨ka, kc, va, vc, ia, ic, by unfold nodeV; rw [HMM.out.right.leaf], HMM.out.node.below q⟩
              clear hM
              go_cut [11, 12] from 16 to 198 (fun p9 q10 wx => ∃ (B9 : Nat) (ka5 : Option Addr) (kc5 : Nat) (va5 : Option Addr) (vc5 : Nat) (ia5 : Option Addr) (ic5 : Nat), p9 = .pointer (some ⟨B9, 0, none⟩) ∧ q10 = .int .i64 C ∧ wx.heap[B9]? = some (.cells #[.bool M3.leaf, .slice ka5 M3.keys.length kc5, .slice va5 M3.values.length vc5, .slice ia5 M3.kids.length ic5] 25 (0, 0)) ∧ NodeIn wx (fun j => wd.heap.size ≤ j ∧ j < wx.heap.size ∧ j ≠ B9) M3 ka5 kc5 va5 vc5 ia5 ic5 ∧ wd.heap.size ≤ B9 ∧ Bl wd wx)
              case first =>
                as_aux_lemma =>
                  go_region_held3 (fun w' => w'.cell? ⟨D, 0, none⟩ = some (.bool true) ∧ w'.cell? ⟨D, 1, none⟩ = some (.slice ka m.keys.length kc) ∧ w'.cell? ⟨D, 2, none⟩ = some (.slice va m.values.length vc) ∧ w'.cell? ⟨D, 3, none⟩ = some (.slice ia m.kids.length ic) ∧ w'.cell? ⟨g, off + k * 3, none⟩ = some (.string key) ∧ w'.cell? ⟨g, off + k * 3 + 1, none⟩ = some (.string value)) (first | exact FK.out _ (Bl.chg (by ((repeat (first | with_reducible exact Bl.refl _ | with_reducible refine Bl.trans ?_ k5 | with_reducible refine Bl.alloc ?_ _ | with_reducible refine Bl.drew ?_)); done)) (chg4 (Bl.refl _) wd.heap.size _ _ _ _) (fun i hi e => by omega)) | exact FK.out _ (by ((repeat (first | with_reducible exact Bl.refl _ | with_reducible refine Bl.trans ?_ k5 | with_reducible refine Bl.alloc ?_ _ | with_reducible refine Bl.drew ?_)); done))) ((first | (go_at_call 25; refine (HPUT.out _ _ _ (FM.out _ (by ((repeat (first | with_reducible exact Bl.refl _ | with_reducible refine Bl.trans ?_ k5 | with_reducible refine Bl.alloc ?_ _ | with_reducible refine Bl.drew ?_)); done)))).mono ?_; rintro e w5 ⟨⟨u, rfl, ho⟩, k5⟩; obtain ⟨ka5, kc5, va5, vc5, ia5, ic5, K5, V5, I5, rfl, hsl5, hap5, htp5⟩ := ho; unfold nodeV; (try (have bz : w5.heap[wd.heap.size]? = some (.cells #[.bool false, .slice none 0 0, .slice none 0 0, .slice none 0 0] 25 (0, 0)) := keepN k5 (block_new wd _); obtain ⟨z0, z1, z2, z3, g0, g1, g2, g3⟩ := cells4 bz)))))
                  all_goals go_wp2_with fail
                  all_goals go_meet
                  · exact ⟨w5.heap.size, ka5, kc5, va5, vc5, ia5, ic5, rfl, rfl, block_new _ _, own_in hsl5 hap5 htp5 (by first | exact Nat.le_refl _ | simp) ((Chg.refl _ _).alloc _) (Or.inr (Nat.le_refl _)), (show Bl wd w5 from (by ((repeat (first | with_reducible exact Bl.refl _ | with_reducible refine Bl.trans ?_ k5 | with_reducible refine Bl.alloc ?_ _ | with_reducible refine Bl.drew ?_)); done))).size, (by ((repeat (first | with_reducible exact Bl.refl _ | with_reducible refine Bl.trans ?_ k5 | with_reducible refine Bl.alloc ?_ _ | with_reducible refine Bl.drew ?_)); done))⟩
                  · exact ⟨wd.heap.size, ka5, kc5, va5, vc5, ia5, ic5, rfl, rfl, block_set4 bz _ _ _ _, own_in hsl5 hap5 htp5 (by first | exact Nat.le_refl _ | simp) (chg4 (Bl.refl _) _ _ _ _ _) (Or.inl (by simp)), Nat.le_refl _, Bl.chg (by ((repeat (first | with_reducible exact Bl.refl _ | with_reducible refine Bl.trans ?_ k5 | with_reducible refine Bl.alloc ?_ _ | with_reducible refine Bl.drew ?_)); done)) (chg4 (Bl.refl _) wd.heap.size _ _ _ _) (fun i hi e => by omega)⟩
              case rest =>
                obtain ⟨B9, ka5, kc5, va5, vc5, ia5, ic5, rfl, rfl, bB9, n9, hB9, kw9⟩ := hcut
                have hM9 := HMM.out.bl kw9
                have kwr := kwr.trans kw9
                have hdd := HMM.out.top
                have lD9 : D < wd.heap.size := lD
                have sw9 := kw9.size
                have lB9 : B9 < wc.heap.size := lt_of_block bB9
                have HM9 := Lib.hid hM9
                clear x0 x1 x2 x3 f0 f1 f2 f3 e0 e1 e2 FK FM
                obtain ⟨e0, e1, e2⟩ := HC.out _ kwr
                rcases HCASES.out with ⟨rfl, hko, hvo, hM3⟩ | ⟨rfl, hbad⟩
                · have hko' := hko
                  have hvo' := hvo
                  simp only [keyOk, valOk, Bool.and_eq_true, decide_eq_true_eq] at hko hvo
                  have p1 : ¬ (key.size : Int) < 1 := by omega
                  have p2 : ¬ (64 : Int) < (key.size : Int) := by omega
                  have p3 : ¬ (64 : Int) < (value.size : Int) := by omega
                  clear HCASES HPUT
                  have HG : Hid (g < w.heap.size) := cell_lt (HC.out w (Bl.refl w)).1
                  have HR3 : Hid M3.Right := by
                    unfold Hid
                    rw [hM3]
                    exact HMM.out.right.put hko' hvo' HAT.out
                  have hml : M3.leaf = true := HR3.out.leaf
                  rw [hml] at bB9
                  have hrlv : r ≤ m.values.length := by have := HMM.out.right.parts.2.1; omega
                  obtain ⟨x0, x1, x2, x3, f0, f1, f2, f3⟩ := cells4 HM9.out.box
                  obtain ⟨z0, z1, z2, z3, -⟩ := cells4 bB9
                  have hc4 := chg4 (Bl.refl wc) D (.bool true) (.slice ka5 M3.keys.length kc5) (.slice va5 M3.values.length vc5) (.slice ia5 M3.kids.length ic5)
                  have bD15 := block_set4 HM9.out.box (.bool true) (.slice ka5 M3.keys.length kc5) (.slice va5 M3.values.length vc5) (.slice ia5 M3.kids.length ic5)
                  cases hfd : m.finds key r with
                  | true =>
                    as_aux_lemma =>
                      have hk3 : M3.keys = m.keys := by rw [hM3]; unfold ND.put; rw [if_pos hfd]
                      have hv3 : M3.values = m.values.set r value := by rw [hM3]; unfold ND.put; rw [if_pos hfd]
                      have hrv : r < m.values.length := by
                        have hq := hfd
                        unfold ND.finds at hq
                        rw [Bool.and_eq_true, decide_eq_true_eq] at hq
                        have := HMM.out.right.parts.2.1
                        omega
                      have hkl3 : m.keys.length = M3.keys.length := by rw [hk3]
                      have hvl3 : m.values.length = M3.values.length := by rw [hv3, List.length_set]
                      have HK3 := Lib.hid hk3
                      have HV3 := Lib.hid hv3
                      clear hM3 hk3 hv3
                      go_upto_region 28 with fail
                      generalize ((((wc.setCell ⟨D, 0, none⟩ (.bool true)).setCell ⟨D, 1, none⟩ (.slice ka5 M3.keys.length kc5)).setCell ⟨D, 2, none⟩ (.slice va5 M3.values.length vc5)).setCell ⟨D, 3, none⟩ (.slice ia5 M3.kids.length ic5)) = w15 at *
                      have s15 := hc4.size
                      have hgl := HG.out
                      have hDl := HD.out
                      have n15 := n9.chg hc4 (fun j hj e => by omega)
                      have k15 := HM9.out.keys.chg hc4 (fun j hj e => by have := hdd j (Or.inr (Or.inl hj)); omega)
                      have v15 := HM9.out.values.chg hc4 (fun j hj e => by have := hdd j (Or.inr (Or.inr hj)); omega)
                      have e1' := hc4.cellOf e1 (fun e => by have e : g = D := e; omega)
                      obtain ⟨g5, off5, y, rfl, hVg, hcell5, hfree5, hset⟩ := sl_put v15 hrv
                      have hg5 := hdd g5 (Or.inr (Or.inr hVg))
                      have nn1 : ¬ g5 = D := by omega
                      have nn2 : ¬ D = g5 := by omega
                      have r1 : (r : Int) < (m.values.length : Int) := by omega
                      have r1' : (r : Int) < (M3.values.length : Int) := by omega
                      have HSET := Lib.hid hset
                      clear hset x0 x1 x2 x3 f0 f1 f2 f3 z0 z1 z2 z3 e0 e1 e2
                      obtain ⟨x0, x1, x2, x3, -⟩ := cells4 bD15
                      go_wp2_with fail
                      have cG : Chg (fun j => j = g5) w15 (w15.setCell ⟨g5, off5 + r, none⟩ (.string value)) := (Chg.refl _ _).setCell _ _ (fun _ => rfl)
                      have v16 := HSET.out (.string value)
                      rw [tcells_set, ← HV3.out, hvl3] at v16
                      try rw [hvl3]
                      try rw [hkl3]
                      generalize w15.setCell ⟨g5, off5 + r, none⟩ (.string value) = w16 at *
                      have s16 := cG.size
                      have bD16 := cG.keeps bD15 (fun e => by omega)
                      have n16 := n15.chg cG (fun j hj e => by omega)
                      have k16 := k15.chg cG (fun j hj e => HMM.out.kv j hj (e ▸ hVg))
                      rw [← HK3.out] at k16
                      refine (same_texts w16 _ _ _ _ M3.keys n16.keys k16.rd).mono ?_
                      rintro e w17 ⟨rfl, k17⟩
                      clear x0 x1 x2 x3
                      obtain ⟨x0, x1, x2, x3, -⟩ := cells4 (below_keeps k17 bD16 (lt_of_block bD16))
                      go_wp2_with fail
                      refine (same_texts w17 _ _ _ _ M3.values (RdAt.below n16.values k17) (v16.below k17).rd).mono ?_
                      rintro e w18 ⟨rfl, k18⟩
                      have s18 := (k17.trans k18).size
                      clear x0 x1 x2 x3
                      go_wp2_with fail
                      go_roundw
                      case measure => simp [intOf]; omega
                      case rel =>
                        as_aux_lemma =>
                          refine ⟨k + 1, M3, ka5, kc5, va5, vc5, ia5, ic5, a4, c4, some ⟨g5, off5, none⟩, c5, (fun j => wd.heap.size ≤ j ∧ j < wc.heap.size ∧ j ≠ B9), K, V, by omega, by go_num, rfl, rfl, by omega, ⟨below_keeps (k17.trans k18) bD16 (lt_of_block bD16), n16.below (k17.trans k18), k16.below (k17.trans k18), v16.below (k17.trans k18), HR3.out, fun j h1 h2 => ?_, fun j h1 h2 => ?_, HMM.out.kv, fun j hj => ?_⟩, ?_⟩
                          · have := hdd j (Or.inr (Or.inl h2)); omega
                          · have := hdd j (Or.inr (Or.inr h2)); omega
                          · rcases hj with h1 | h1 | h1
                            · omega
                            · have := hdd j (Or.inr (Or.inl h1)); omega
                            · have := hdd j (Or.inr (Or.inr h1)); omega
                          · exact ((kwr.chg hc4 (fun i hi e => by omega)).chg cG (fun i hi e => by omega)).trans (k17.trans k18)
                  | false =>
                    as_aux_lemma =>
                      have hk3 : M3.keys = m.keys.take r ++ key :: m.keys.drop r := by rw [hM3]; unfold ND.put; rw [if_neg (by rw [hfd]; decide)]
                      have hv3 : M3.values = m.values.take r ++ value :: m.values.drop r := by rw [hM3]; unfold ND.put; rw [if_neg (by rw [hfd]; decide)]
                      have hrl := HAT.out.le
                      have hkl3 : r + 1 + (m.keys.length - r) = M3.keys.length := by rw [hk3]; simp; omega
                      have hvl3 : r + 1 + (m.values.length - r) = M3.values.length := by rw [hv3]; simp; omega
                      have tk3 : tcells (m.keys.take r) ++ tcells [key] ++ tcells (m.keys.drop r) = tcells M3.keys := by rw [hk3]; simp [tcells]
                      have tv3 : tcells (m.values.take r) ++ tcells [value] ++ tcells (m.values.drop r) = tcells M3.values := by rw [hv3]; simp [tcells]
                      have HL3 : Hid (M3.keys.length ≤ k + 1) := by show _ ≤ _; rw [← hkl3]; omega
                      have HKL3 := Lib.hid hkl3
                      have HVL3 := Lib.hid hvl3
                      have HTK3 := Lib.hid tk3
                      have HTV3 := Lib.hid tv3
                      have HKM : Hid (m.keys.length + 1 ≤ 8796093022208 ∧ m.values.length + 1 ≤ 8796093022208 ∧ r ≤ m.keys.length ∧ r ≤ m.values.length) := ⟨by omega, by have := HMM.out.right.parts.2.1; omega, hrl, hrlv⟩
                      clear hM3 hk3 hv3 hkl3 hvl3 tk3 tv3
                      obtain ⟨we, rfl⟩ : ∃ x, x = wc := ⟨wc, rfl⟩
                      go_upto_region 29 with fail
                      generalize ((((we.setCell ⟨D, 0, none⟩ (.bool true)).setCell ⟨D, 1, none⟩ (.slice ka5 M3.keys.length kc5)).setCell ⟨D, 2, none⟩ (.slice va5 M3.values.length vc5)).setCell ⟨D, 3, none⟩ (.slice ia5 M3.kids.length ic5)) = w15 at *
                      have s15 := hc4.size
                      have hgl := HG.out
                      have hDl := HD.out
                      have n15 := n9.chg hc4 (fun j hj e => by omega)
                      have k15 := HM9.out.keys.chg hc4 (fun j hj e => by have := hdd j (Or.inr (Or.inl hj)); omega)
                      have v15 := HM9.out.values.chg hc4 (fun j hj e => by have := hdd j (Or.inr (Or.inr hj)); omega)
                      have e0' := hc4.cellOf e0 (fun e => by have e : g = D := e; omega)
                      have e1' := hc4.cellOf e1 (fun e => by have e : g = D := e; omega)
                      have lg15 : g < w15.heap.size := cell_lt e0'
                      obtain ⟨kta, ktc, hktr, hkt⟩ := slice_to Try.underlying22 hi9 hz91 k15.rd hrl
                      obtain ⟨kfa, kfc, hkfr, hkf⟩ := slice_from Try.underlying22 hi9 hz91 k15.rd hrl
                      obtain ⟨vta, vtc, hvtr, hvt⟩ := slice_to Try.underlying22 hi9 hz91 v15.rd hrlv
                      obtain ⟨vfa, vfc, hvfr, hvf⟩ := slice_from Try.underlying22 hi9 hz91 v15.rd hrlv
                      rw [tcells_take] at hkt hvt
                      rw [tcells_drop] at hkf hvf
                      have FKT : Hid (∀ w', Bl w15 w' → RdAt w' K 1 (.slice kta r ktc) r (tcells (m.keys.take r))) := fun w' k => hkt.below k
                      have FKF : Hid (∀ w', Bl w15 w' → RdAt w' K 1 (.slice kfa (m.keys.length - r) kfc) (m.keys.length - r) (tcells (m.keys.drop r))) := fun w' k => hkf.below k
                      have FVT : Hid (∀ w', Bl w15 w' → RdAt w' V 1 (.slice vta r vtc) r (tcells (m.values.take r))) := fun w' k => hvt.below k
                      have FVF : Hid (∀ w', Bl w15 w' → RdAt w' V 1 (.slice vfa (m.values.length - r) vfc) (m.values.length - r) (tcells (m.values.drop r))) := fun w' k => hvf.below k
                      have FE0 : Hid (∀ w', Bl w15 w' → w'.cell? ⟨g, off + k * 3, none⟩ = some (.string key)) := fun w' q => (q.cell (p := ⟨g, _, none⟩) lg15).trans e0'
                      have FE1 : Hid (∀ w', Bl w15 w' → w'.cell? ⟨g, off + k * 3 + 1, none⟩ = some (.string value)) := fun w' q => (q.cell (p := ⟨g, _, none⟩) lg15).trans e1'
                      have HVT := Lib.hid hvtr
                      have HVF := Lib.hid hvfr
                      clear hkt hkf hvt hvf hvtr hvfr k15 v15 x0 x1 x2 x3 f0 f1 f2 f3 z0 z1 z2 z3 e0 e1 e2 e0' e1'
                      go_cut [4] from 16 to 198 (fun v4 wx => ∃ (a9 : Option Addr) (cap9 : Nat), v4 = .slice a9 (r + 1 + (m.keys.length - r)) cap9 ∧ SlAt wx (fun j => w15.heap.size ≤ j ∧ j < wx.heap.size) 9 1 (.slice a9 (r + 1 + (m.keys.length - r)) cap9) (r + 1 + (m.keys.length - r)) (tcells (m.keys.take r) ++ tcells [key] ++ tcells (m.keys.drop r)) ∧ Bl w15 wx)
                      case first =>
                        as_aux_lemma =>
                          go_region_held3 (fun w' => w'.cell? ⟨g, off + k * 3, none⟩ = some (.string key)) (exact FE0.out _ (by ((repeat (first | with_reducible exact Bl.refl _ | with_reducible exact k9 | with_reducible exact k8 | with_reducible exact k7 | with_reducible refine Bl.alloc ?_ _ | with_reducible refine Bl.drew ?_)); done))) ((first | (refine step_append_sl rfl (.tmp 161) (.tmp 164) 22 rfl 9 i9 (.string ⟨#[]⟩) 1 16 Try.underlying22 hi9 hz90 hz91 hz92 rfl (fun j => w15.heap.size ≤ j) _ (r + 1) (tcells (m.keys.take r) ++ tcells [key]) rfl (g8.below (by ((repeat (first | with_reducible exact Bl.refl _ | with_reducible refine Bl.alloc ?_ _ | with_reducible refine Bl.drew ?_)); done))) K _ (m.keys.length - r) (tcells (m.keys.drop r)) rfl (FKF.out _ (by ((repeat (first | with_reducible exact Bl.refl _ | with_reducible exact k9 | with_reducible exact k8 | with_reducible exact k7 | with_reducible refine Bl.alloc ?_ _ | with_reducible refine Bl.drew ?_)); done))) (tcells_one _) ?_ ?_ ?_; (have := HKM.out; unfold maxLen; omega); (have := HKM.out; omega); intro v9 w9 hs hc; obtain ⟨a9, cap9, rfl⟩ := hs.shape; (have k9 : Bl w15 w9 := Bl.chg (by ((repeat (first | with_reducible exact Bl.refl _ | with_reducible exact k9 | with_reducible exact k8 | with_reducible exact k7 | with_reducible refine Bl.alloc ?_ _ | with_reducible refine Bl.drew ?_)); done)) hc (fun i hi e => by omega)); (have g9 := hs.mono (own2 := fun j => w15.heap.size ≤ j) (fun j hj e => by rcases e with e | e; exact e; rw [e]; exact bl_size (by ((repeat (first | with_reducible exact Bl.refl _ | with_reducible exact k9 | with_reducible exact k8 | with_reducible exact k7 | with_reducible refine Bl.alloc ?_ _ | with_reducible refine Bl.drew ?_)); done)))); clear hs hc; (have b9 := below_keeps k9 bD15 (lt_of_block bD15)); obtain ⟨x0, x1, x2, x3, f0, f1, f2, f3⟩ := cells4 b9) | (refine step_append_sl rfl (.tmp 150) (.tmp 153) 22 rfl 9 i9 (.string ⟨#[]⟩) 1 16 Try.underlying22 hi9 hz90 hz91 hz92 rfl (fun _ => False) _ 0 [] rfl (SlAt.nil _ _ _ _ _) K _ r (tcells (m.keys.take r)) rfl (FKT.out _ (by ((repeat (first | with_reducible exact Bl.refl _ | with_reducible exact k9 | with_reducible exact k8 | with_reducible exact k7 | with_reducible refine Bl.alloc ?_ _ | with_reducible refine Bl.drew ?_)); done))) (tcells_one _) ?_ ?_ ?_; (have := HKM.out; unfold maxLen; omega); (have := HKM.out; omega); intro v7 w7 hs hc; rw [Nat.zero_add, List.nil_append] at hs; obtain ⟨a7, cap7, rfl⟩ := hs.shape; (have k7 : Bl w15 w7 := Bl.chg (by ((repeat (first | with_reducible exact Bl.refl _ | with_reducible exact k9 | with_reducible exact k8 | with_reducible exact k7 | with_reducible refine Bl.alloc ?_ _ | with_reducible refine Bl.drew ?_)); done)) hc (fun i hi e => e)); (have g7 := hs.mono (own2 := fun j => w15.heap.size ≤ j) (fun j hj e => by rcases e with e | e; exact e.elim; rw [e]; exact bl_size (by ((repeat (first | with_reducible exact Bl.refl _ | with_reducible exact k9 | with_reducible exact k8 | with_reducible exact k7 | with_reducible refine Bl.alloc ?_ _ | with_reducible refine Bl.drew ?_)); done)))); (have kk7 := hc.below (Nat.le_refl _) (fun _ _ e => e)); clear hs hc) | (refine step_append_sl rfl (.tmp 154) (.tmp 160) 22 rfl 9 i9 (.string ⟨#[]⟩) 1 16 Try.underlying22 hi9 hz90 hz91 hz92 rfl (fun j => w15.heap.size ≤ j) _ r (tcells (m.keys.take r)) rfl (g7.below (by ((repeat (first | with_reducible exact Bl.refl _ | with_reducible refine Bl.alloc ?_ _ | with_reducible refine Bl.drew ?_)); done))) (fun _ => True) _ 1 (tcells [key]) rfl ?_ (tcells_one _) ?_ ?_ ?_; refine rd_key ?_; (first | exact block_new' _ (by simp) | exact block_drew (block_new' _ (by simp)) | exact keep_new kk7 (block_new' _ (by simp)) | exact keep_new kk7 (block_drew (block_new' _ (by simp))) | exact keep_new kk7 (block_old _ (block_new' _ (by simp))) | exact keep_new kk7 (block_drew (block_old _ (block_new' _ (by simp))))); (have := HKM.out; unfold maxLen; omega); (have := HKM.out; omega); intro v8 w8 hs hc; obtain ⟨a8, cap8, rfl⟩ := hs.shape; (have k8 : Bl w15 w8 := Bl.chg (by ((repeat (first | with_reducible exact Bl.refl _ | with_reducible exact k9 | with_reducible exact k8 | with_reducible exact k7 | with_reducible refine Bl.alloc ?_ _ | with_reducible refine Bl.drew ?_)); done)) hc (fun i hi e => by omega)); (have g8 := hs.mono (own2 := fun j => w15.heap.size ≤ j) (fun j hj e => by rcases e with e | e; exact e; rw [e]; exact bl_size (by ((repeat (first | with_reducible exact Bl.refl _ | with_reducible exact k9 | with_reducible exact k8 | with_reducible exact k7 | with_reducible refine Bl.alloc ?_ _ | with_reducible refine Bl.drew ?_)); done)))); clear hs hc)))
                          all_goals go_wp2_with fail
                          all_goals go_meet
                          all_goals exact ⟨a9, cap9, rfl, g9.mono (fun j h1 h2 => ⟨h2, h1⟩), k9⟩
                      case rest =>
                        obtain ⟨a9, cap9, rfl, g9, k9⟩ := hcut
                        obtain ⟨w9, rfl⟩ : ∃ x, x = wc := ⟨wc, rfl⟩
                        rw [HKL3.out]
                        rw [HKL3.out, HTK3.out] at g9
                        have FVT2 : Hid (∀ w', Bl w9 w' → RdAt w' V 1 (.slice vta r vtc) r (tcells (m.values.take r))) := fun w' q => FVT.out _ (k9.trans q)
                        have FVF2 : Hid (∀ w', Bl w9 w' → RdAt w' V 1 (.slice vfa (m.values.length - r) vfc) (m.values.length - r) (tcells (m.values.drop r))) := fun w' q => FVF.out _ (k9.trans q)
                        have FE12 : Hid (∀ w', Bl w9 w' → w'.cell? ⟨g, off + k * 3 + 1, none⟩ = some (.string value)) := fun w' q => FE1.out _ (k9.trans q)
                        have hvtr := HVT.out
                        have hvfr := HVF.out
                        have hbD9 := below_keeps k9 bD15 (lt_of_block bD15)
                        have s9 := k9.size
                        have lg9 : g < w9.heap.size := by omega
                        clear FKT FKF FVT FVF hktr hkfr FE0 FE1
                        go_upto_region 30 with fail
                        go_cut [5] from 16 to 198 (fun v5 wx => ∃ (a14 : Option Addr) (cap14 : Nat), v5 = .slice a14 (r + 1 + (m.values.length - r)) cap14 ∧ SlAt wx (fun j => w9.heap.size ≤ j ∧ j < wx.heap.size) 9 1 (.slice a14 (r + 1 + (m.values.length - r)) cap14) (r + 1 + (m.values.length - r)) (tcells (m.values.take r) ++ tcells [value] ++ tcells (m.values.drop r)) ∧ Bl w9 wx)
                        case first =>
                          as_aux_lemma =>
                            go_region_held3 (fun w' => w'.cell? ⟨g, off + k * 3 + 1, none⟩ = some (.string value)) (exact FE12.out _ (by ((repeat (first | with_reducible exact Bl.refl _ | with_reducible exact k14 | with_reducible exact k13 | with_reducible exact k12 | with_reducible refine Bl.alloc ?_ _ | with_reducible refine Bl.drew ?_)); done))) ((first | (refine step_append_sl rfl (.tmp 177) (.tmp 180) 22 rfl 9 i9 (.string ⟨#[]⟩) 1 16 Try.underlying22 hi9 hz90 hz91 hz92 rfl (fun j => w9.heap.size ≤ j) _ (r + 1) (tcells (m.values.take r) ++ tcells [value]) rfl (g13.below (by ((repeat (first | with_reducible exact Bl.refl _ | with_reducible refine Bl.alloc ?_ _ | with_reducible refine Bl.drew ?_)); done))) V _ (m.values.length - r) (tcells (m.values.drop r)) rfl (FVF2.out _ (by ((repeat (first | with_reducible exact Bl.refl _ | with_reducible exact k14 | with_reducible exact k13 | with_reducible exact k12 | with_reducible refine Bl.alloc ?_ _ | with_reducible refine Bl.drew ?_)); done))) (tcells_one _) ?_ ?_ ?_; (have := HKM.out; unfold maxLen; omega); (have := HKM.out; omega); intro v14 w14 hs hc; obtain ⟨a14, cap14, rfl⟩ := hs.shape; (have k14 : Bl w9 w14 := Bl.chg (by ((repeat (first | with_reducible exact Bl.refl _ | with_reducible exact k14 | with_reducible exact k13 | with_reducible exact k12 | with_reducible refine Bl.alloc ?_ _ | with_reducible refine Bl.drew ?_)); done)) hc (fun i hi e => by omega)); (have g14 := hs.mono (own2 := fun j => w9.heap.size ≤ j) (fun j hj e => by rcases e with e | e; exact e; rw [e]; exact bl_size (by ((repeat (first | with_reducible exact Bl.refl _ | with_reducible exact k14 | with_reducible exact k13 | with_reducible exact k12 | with_reducible refine Bl.alloc ?_ _ | with_reducible refine Bl.drew ?_)); done)))); clear hs hc; (have b14 := below_keeps k14 hbD9 (lt_of_block hbD9)); obtain ⟨x0, x1, x2, x3, f0, f1, f2, f3⟩ := cells4 b14) | (refine step_append_sl rfl (.tmp 166) (.tmp 169) 22 rfl 9 i9 (.string ⟨#[]⟩) 1 16 Try.underlying22 hi9 hz90 hz91 hz92 rfl (fun _ => False) _ 0 [] rfl (SlAt.nil _ _ _ _ _) V _ r (tcells (m.values.take r)) rfl (FVT2.out _ (by ((repeat (first | with_reducible exact Bl.refl _ | with_reducible exact k14 | with_reducible exact k13 | with_reducible exact k12 | with_reducible refine Bl.alloc ?_ _ | with_reducible refine Bl.drew ?_)); done))) (tcells_one _) ?_ ?_ ?_; (have := HKM.out; unfold maxLen; omega); (have := HKM.out; omega); intro v12 w12 hs hc; rw [Nat.zero_add, List.nil_append] at hs; obtain ⟨a12, cap12, rfl⟩ := hs.shape; (have k12 : Bl w9 w12 := Bl.chg (by ((repeat (first | with_reducible exact Bl.refl _ | with_reducible exact k14 | with_reducible exact k13 | with_reducible exact k12 | with_reducible refine Bl.alloc ?_ _ | with_reducible refine Bl.drew ?_)); done)) hc (fun i hi e => e)); (have g12 := hs.mono (own2 := fun j => w9.heap.size ≤ j) (fun j hj e => by rcases e with e | e; exact e.elim; rw [e]; exact bl_size (by ((repeat (first | with_reducible exact Bl.refl _ | with_reducible exact k14 | with_reducible exact k13 | with_reducible exact k12 | with_reducible refine Bl.alloc ?_ _ | with_reducible refine Bl.drew ?_)); done)))); (have kk12 := hc.below (Nat.le_refl _) (fun _ _ e => e)); clear hs hc) | (refine step_append_sl rfl (.tmp 170) (.tmp 176) 22 rfl 9 i9 (.string ⟨#[]⟩) 1 16 Try.underlying22 hi9 hz90 hz91 hz92 rfl (fun j => w9.heap.size ≤ j) _ r (tcells (m.values.take r)) rfl (g12.below (by ((repeat (first | with_reducible exact Bl.refl _ | with_reducible refine Bl.alloc ?_ _ | with_reducible refine Bl.drew ?_)); done))) (fun _ => True) _ 1 (tcells [value]) rfl ?_ (tcells_one _) ?_ ?_ ?_; refine rd_key ?_; (first | exact block_new' _ (by simp) | exact block_drew (block_new' _ (by simp)) | exact keep_new kk12 (block_new' _ (by simp)) | exact keep_new kk12 (block_drew (block_new' _ (by simp))) | exact keep_new kk12 (block_old _ (block_new' _ (by simp))) | exact keep_new kk12 (block_drew (block_old _ (block_new' _ (by simp))))); (have := HKM.out; unfold maxLen; omega); (have := HKM.out; omega); intro v13 w13 hs hc; obtain ⟨a13, cap13, rfl⟩ := hs.shape; (have k13 : Bl w9 w13 := Bl.chg (by ((repeat (first | with_reducible exact Bl.refl _ | with_reducible exact k14 | with_reducible exact k13 | with_reducible exact k12 | with_reducible refine Bl.alloc ?_ _ | with_reducible refine Bl.drew ?_)); done)) hc (fun i hi e => by omega)); (have g13 := hs.mono (own2 := fun j => w9.heap.size ≤ j) (fun j hj e => by rcases e with e | e; exact e; rw [e]; exact bl_size (by ((repeat (first | with_reducible exact Bl.refl _ | with_reducible exact k14 | with_reducible exact k13 | with_reducible exact k12 | with_reducible refine Bl.alloc ?_ _ | with_reducible refine Bl.drew ?_)); done)))); clear hs hc)))
                            all_goals go_wp2_with fail
                            all_goals go_meet
                            all_goals exact ⟨a14, cap14, rfl, g14.mono (fun j h1 h2 => ⟨h2, h1⟩), k14⟩
                        case rest =>
                          obtain ⟨a14, cap14, rfl, g14, k14⟩ := hcut
                          obtain ⟨w14, rfl⟩ : ∃ x, x = wc := ⟨wc, rfl⟩
                          rw [HVL3.out]
                          rw [HVL3.out, HTV3.out] at g14
                          clear hvtr hvfr FVT2 FVF2 FE12
                          have s14 := k14.size
                          have bD14 := below_keeps k14 hbD9 (lt_of_block hbD9)
                          have n14 := n15.below (k9.trans k14)
                          have k14' := g9.below k14
                          obtain ⟨x0, x1, x2, x3, -⟩ := cells4 bD14
                          go_wp2_with fail
                          refine (same_texts w14 _ _ _ _ M3.keys n14.keys k14'.rd).mono ?_
                          rintro e w17 ⟨rfl, k17⟩
                          clear x0 x1 x2 x3
                          obtain ⟨x0, x1, x2, x3, -⟩ := cells4 (below_keeps k17 bD14 (lt_of_block bD14))
                          go_wp2_with fail
                          refine (same_texts w17 _ _ _ _ M3.values (RdAt.below n14.values k17) (g14.below k17).rd).mono ?_
                          rintro e w18 ⟨rfl, k18⟩
                          have s18 := (k17.trans k18).size
                          clear x0 x1 x2 x3
                          go_wp2_with fail
                          go_roundw
                          case measure => simp [intOf]; omega
                          case rel =>
                            as_aux_lemma =>
                              refine ⟨k + 1, M3, ka5, kc5, va5, vc5, ia5, ic5, a9, cap9, a14, cap14, (fun j => wd.heap.size ≤ j ∧ j < we.heap.size ∧ j ≠ B9), (fun j => w15.heap.size ≤ j ∧ j < w9.heap.size), (fun j => w9.heap.size ≤ j ∧ j < w14.heap.size), by omega, by go_num, rfl, rfl, HL3.out, ⟨below_keeps (k17.trans k18) bD14 (lt_of_block bD14), n14.below (k17.trans k18), k14'.below (k17.trans k18), g14.below (k17.trans k18), HR3.out, fun j h1 h2 => by omega, fun j h1 h2 => by omega, fun j h1 h2 => by omega, fun j hj => ?_⟩, ?_⟩
                              · rcases hj with h1 | h1 | h1 <;> omega
                              · exact (((kwr.chg hc4 (fun i hi e => by omega)).trans k9).trans k14).trans (k17.trans k18)
                · have hside : (key.size : Int) < 1 ∨ (¬ (key.size : Int) < 1 ∧ (64 : Int) < (key.size : Int)) ∨ (¬ (key.size : Int) < 1 ∧ ¬ (64 : Int) < (key.size : Int) ∧ (64 : Int) < (value.size : Int)) := by
                    simp only [keyOk, valOk, Bool.and_eq_false_iff, decide_eq_false_iff_not] at hbad
                    omega
                  clear hbad HCASES HPUT
                  rcases hside with p1 | ⟨p1, p2⟩ | ⟨p1, p2, p3⟩
                  all_goals
                    go_wp2_with fail
                    go_roundw
                    case measure => simp [intOf]; omega
                    case rel => exact ⟨k + 1, m, ka, kc, va, vc, ia, ic, a4, c4, a5, c5, N, K, V, by omega, by go_num, rfl, rfl, by omega, HM9.out, kwr⟩
    · obtain rfl : k = l.length := by omega
      go_wp2_with fail
      go_ret
      exact ⟨rfl, kwr⟩
end Go.Proofs.Ytjdkalimaldofaa
