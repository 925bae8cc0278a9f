/-
  find of package cache.
-/
import Derived.Test.YtjjgihaikcnjgaaCRoom
import Derived.Test.YtjjgihaikcnjgaaCOk
import Derived.Test.YtjjgihaikcnjgaaDRef5
namespace Go.Proofs.Ytjjgihaikcnjgaa
open Go.RowKit Go.Maps
set_option linter.unusedSimpArgs false
set_option linter.unusedVariables false
set_option maxRecDepth 100000

def i64 (n : Int) : Prop := -9223372036854775808 ≤ n ∧ n ≤ 9223372036854775807
theorem look_run {w : World} {mb : Nat} {ns : List (Nat × Frm)} (h : MapAt w mb ns) (n : Int) (hn : i64 n) : (Instr.lookup 54 (.map (some mb)) (.int .i64 n) false).run Try.prog w = .ok (match ns.find? (fun x => Frm.is n x.2) with | some x => ptr x.1 | none => .pointer none) w := by
  obtain ⟨D, hown, hD⟩ := h
  have hkey : keyOf Try.prog 3 (.int .i64 n) = some (.int .i64 n) := keyOf_int_mk Try.underlying3 (by unfold i64 at hn; simp [Lit.wf, IntKind.min, IntKind.max, IntKind.bits, IntKind.signed]; omega)
  obtain ⟨v, ps, hrun, hv⟩ := hown.lookup law3 Try.underlying54 (zero53 w) ptrElem_nil hkey
  rw [hD.at_ n] at hv
  rw [hrun]
  unfold blockOf at hv
  cases hf : ns.find? (fun x => Frm.is n x.2) with
  | none =>
    rw [hf] at hv
    rcases ptrElem_inv hv with ⟨rfl, _⟩ | ⟨b, rfl, e⟩
    · rfl
    · simp at e; omega
  | some x =>
    rw [hf] at hv
    rcases ptrElem_inv hv with ⟨rfl, e⟩ | ⟨b, rfl, e⟩
    · simp at e; omega
    · simp at e
      have : b = x.1 := by omega
      subst this; rfl
theorem find_look {s : CS} {ns : List (Nat × Frm)} (hf : ns.map Prod.snd = s.frames) (n : Int) : s.look n = (ns.find? (fun x => Frm.is n x.2)).map Prod.snd := by
  unfold CS.look
  rw [← hf, List.find?_map]; rfl
def col1 (col : Nat → Nat) (n z : Nat) (k : Nat) : Nat := if k < n then col k else if k < z then 1 else 0
theorem col1_ext (col : Nat → Nat) (n z : Nat) : Ext n col (col1 col n z) := fun k hk => by unfold col1; rw [if_pos hk]
theorem PendC.mono {w : World} {col col' : Nat → Nat} (ho : ∀ k, col k = 1 → col' k = 1) : ∀ {ps : List (Int × List Int)} {cs : List Value}, PendC w col ps cs → PendC w col' ps cs
  | [], cs, h => h
  | p :: ps, cs, h => by
    obtain ⟨a, n, cap, rest, rfl, h1, h⟩ := h
    exact ⟨a, n, cap, rest, rfl, RdAt.mono h1 (fun k _ e => ho k e), PendC.mono ho h⟩
theorem DiskAt.recol {w : World} {T : TypeId} {col col' : Nat → Nat} {c b : Nat} {s : DS} (h : DiskAt w T col c b s) (hc : 0 < c) (ho : ∀ k, col k ≠ 0 → col' k = col k) : DiskAt w T col' c b s := by
  obtain ⟨pa, pcap, qa, qn, qcap, qs, h⟩ := h
  exact ⟨pa, pcap, qa, qn, qcap, qs, h.block, by rw [ho b (by rw [h.color]; omega)]; exact h.color, h.plat.mono (fun k _ e => by rw [ho k (by omega)]; exact e), h.list.mono (fun k _ e => by rw [ho k (by omega)]; exact e), h.len, PendC.mono (fun k e => by rw [ho k (by omega)]; exact e) h.pend⟩
theorem KStep.one {w w' : World} {c : Nat} {col col' : Nat → Nat} {size n : Nat} {v : Value} {xs : List Value} (k : KStep c col col' w w') (hc : 1 < c) (h : RdAt w (fun k => col k = 1) size v n xs) : RdAt w' (fun k => col' k = 1) size v n xs :=
  h.keep (fun i hi e => k.chg.block i hi (fun e' => by unfold inK at e'; omega)) (fun i hi e => (k.ext i hi).trans e) k.chg.size
section
variable {w : World} {col : Nat → Nat} {c b db rb mb : Nat} {s : CS} {ns : List (Nat × Frm)}
def FindTells (w : World) (col : Nat → Nat) (c b db rb mb : Nat) (r : Int × CS) (e : Ending) (w' : World) : Prop :=
  ∃ col' ns', CacheIn w' col' c b r.2 db rb mb ns' ∧ KStep c col col' w w' ∧ ((r.1 = 0 ∧ ∃ m x, ns' = m ++ [x] ∧ e = .returned (.tuple #[ptr x.1, .int .i64 0])) ∨ (r.1 ≠ 0 ∧ e = .returned (.tuple #[.pointer none, .int .i64 r.1])))
theorem hits_end (h : CacheIn w col c b s db rb mb ns) (hc : 1 < c) (hn : Norm w col) (i : Nat) (v : Value) (s' : CS) (hd : s'.d = s.d) (hf : s'.frames = s.frames) (hs : (cacheC db rb mb s).setIfInBounds i v = cacheC db rb mb s') :
    CacheIn (w.setCell ⟨b, i, none⟩ v) col c b s' db rb mb ns ∧ KStep c col col w (w.setCell ⟨b, i, none⟩ v) := by
  have k2 : Chg (fun i => i = b) w (w.setCell ⟨b, i, none⟩ v) := (Chg.refl (fun i => i = b) _).setCell ⟨b, i, none⟩ _ (fun _ => rfl)
  have hcb := h.cb
  exact ⟨h.cells hc k2 (by rw [block_set h.block i, hs]) hd hf, KStep.of hn k2 (fun i e => by subst e; unfold inK; omega)⟩
set_option maxHeartbeats 2000000 in
theorem find_any (h : CacheIn w col c b s db rb mb ns) (hc : 1 < c) (hnm : Norm w col) (ok : s.Ok) (hp : s.d.pending.length ≤ 1073690000) (n : Int) (hn : i64 n) :
    Calls Try.prog 33 #[ptr b, .int .i64 n] w fun e w' => FindTells w col c b db rb mb (s.fetch n) e w' := by
  obtain ⟨c0, -, -, c3, c4, -, -, -, cf⟩ := cells_cache h.block
  have cf4 := cf 4
  have hlk := look_run h.map n hn
  have hlook := find_look h.fr n
  have ha := apart_of_ok ok h.fr
  cases hf : ns.find? (fun x => Frm.is n x.2) with
  | some x =>
    rw [hf] at hlk hlook
    obtain ⟨hxm, hxn⟩ : x ∈ ns ∧ x.2.sector = n := ⟨List.mem_of_find?_eq_some hf, by have := List.find?_some hf; simpa [Frm.is] using this⟩
    clear hf
    obtain ⟨l1, l2, rfl⟩ := List.append_of_mem hxm
    have hfe : s.fetch n = (0, { (s.used x.2) with hits := wrap64 (s.hits + 1) }) := by unfold CS.fetch; rw [hlook]; rfl
    have hus : s.used x.2 = { s with frames := (l1 ++ l2 ++ [x]).map Prod.snd } := by
      unfold CS.used
      rw [rest_split h.fr ha _ rfl]; simp
    rw [hus] at hfe
    have HFE := Lib.hid hfe
    have H := Lib.hid h
    have HA := Lib.hid ha
    have HNM := Lib.hid hnm
    have HX := Lib.hid (hits_end h hc hnm 4 (.int .i64 (wrap64 (s.hits + 1))) { s with hits := wrap64 (s.hits + 1) } rfl rfl rfl)
    clear h ha hnm hfe hus hlook ok hn hxm hxn cf
    unfold ptr at *
    simp only at hlk
    go_enter Try.func33, Try.ntmps33
    go_wp2_with fail
    refine (use_any HX.out.1 hc HA.out HX.out.2.norm).mono ?_
    rintro e w2 ⟨rfl, h2, k2⟩
    have H2 := Lib.hid h2
    have K2 := Lib.hid k2
    clear h2 k2
    go_wp2_with fail
    go_ret2
    rw [HFE.out]
    exact ⟨col, _, H2.out, HX.out.2.trans K2.out, Or.inl ⟨rfl, _, x, rfl, rfl⟩⟩
  | none =>
    rw [hf] at hlk hlook
    have hno := look_none hlook
    simp only at hlk
    by_cases hr : 0 ≤ n ∧ n < s.d.count
    · have hfe : s.fetch n = (if (({ s with d := s.d.read, misses := wrap64 (s.misses + 1) } : CS).made).1 = 0 then (0, (({ s with d := s.d.read, misses := wrap64 (s.misses + 1) } : CS).made).2.added ⟨n, 0, false, 0, s.d.sector n⟩) else (({ s with d := s.d.read, misses := wrap64 (s.misses + 1) } : CS).made)) := by
        unfold CS.fetch; rw [hlook]; simp only [Option.map_none]; rw [if_pos hr]
      have ok2 : ({ s with d := s.d.read, misses := wrap64 (s.misses + 1) } : CS).Ok := ⟨read_Ok ok.d, ok.on, ok.room0, ok.room1, ok.len, ok.nodup, ok.at0, ok.size, ok.order⟩
      have hmk := made_Ok ok2
      have hcnt := ok.d.count1
      have HFE := Lib.hid hfe
      have HMK := Lib.hid hmk
      have HOK2 := Lib.hid ok2
      have HOK := Lib.hid ok
      have H := Lib.hid h
      have HNM := Lib.hid hnm
      have HP := Lib.hid hp
      have HNO := Lib.hid hno
      have HR := Lib.hid hr
      have HCN := Lib.hid hcnt
      clear h ha hnm hfe hmk ok2 hlook ok hn cf cf4 c4 hp hno hr hcnt hf
      unfold ptr at *
      go_enter Try.func33, Try.ntmps33
      go_wp2_with fail
      refine (read_ok w col c db s.d n H.out.disk hc HOK.out.d (by have := HP.out; omega) HR.out.1 HR.out.2).mono ?_
      rintro e w1 ⟨a, cap, rfl, hsl, hdk, hch⟩
      have hext := col1_ext col w.heap.size w1.heap.size
      have hcs : ∀ k, col k ≠ 0 → col1 col w.heap.size w1.heap.size k = col k := fun k hk => hext k (by
        rcases Nat.lt_or_ge k w.heap.size with h | h
        · exact h
        · exact absurd (HNM.out k h) hk)
      have st1 : Step c col (col1 col w.heap.size w1.heap.size) w w1 := ⟨hext, hch, fun k hk => by unfold col1; rw [if_neg (by have := hch.size; omega), if_neg (by omega)]⟩
      have h1 := H.out.disked hc st1 (hdk.recol (by omega) hcs)
      have hby1 : BytesAt w1 (fun k => col1 col w.heap.size w1.heap.size k = 1) (.slice a (s.d.sector n).length cap) (s.d.sector n) := RdAt.mono hsl.rd (fun k hk e => by unfold col1; rw [if_neg (by omega), if_pos hk])
      generalize col1 col w.heap.size w1.heap.size = col1 at *
      obtain ⟨-, -, -, -, -, c5, -, -, cf⟩ := cells_cache h1.block
      have cf5 := cf 5
      have HX := Lib.hid (hits_end h1 hc st1.norm 5 (.int .i64 (wrap64 (s.misses + 1))) { s with d := s.d.read, misses := wrap64 (s.misses + 1) } rfl rfl rfl)
      have HST := Lib.hid st1
      have HBY := Lib.hid hby1
      clear hext hcs st1 h1 hby1 hsl hdk hch cf c0 c3 hlk
      simp only at c5
      go_wp2_with fail
      refine (room_any HX.out.1 hc HX.out.2.norm HOK2.out (by have := HP.out; show s.d.read.pending.length ≤ _; have e : s.d.read.pending = s.d.pending := rfl; rw [e]; omega)).mono ?_
      rintro e w3 ⟨rfl, col3, ns3, h3, k3⟩
      by_cases hz : ({ s with d := s.d.read, misses := wrap64 (s.misses + 1) } : CS).made.1 = 0
      · have hfe := HFE.out
        rw [if_pos hz] at hfe
        have HFE2 := Lib.hid hfe
        have hmr := HMK.out.room hz
        have hml : ns3.length ≤ 4096 := by
          have e1 := congrArg List.length h3.fr
          have e2 := HMK.out.ok.room1
          simp at e1
          omega
        have hno3 : ∀ y ∈ ns3, Frm.is n y.2 = false := fun y hy => by
          have hm : y.2 ∈ ({ s with d := s.d.read, misses := wrap64 (s.misses + 1) } : CS).made.2.frames := by rw [← h3.fr]; exact List.mem_map_of_mem hy
          obtain ⟨g, hg, e⟩ := HMK.out.sub _ hm
          have := HNO.out g hg
          simp [Frm.is]; rw [e]; exact this
        have HB3 := Lib.hid (k3.one hc (HX.out.2.one hc HBY.out))
        have H3 := Lib.hid h3
        have K3 := Lib.hid k3
        have HN3 := Lib.hid hno3
        have HL3 := Lib.hid hml
        generalize ({ s with d := s.d.read, misses := wrap64 (s.misses + 1) } : CS).made = t at *
        obtain ⟨t1, t2⟩ := t
        simp only at hz
        subst hz
        clear hfe hmr hml hno3 h3 k3 c5 cf5
        go_wp2_with fail
        refine (add_any H3.out hc K3.out.norm HL3.out n _ _ HB3.out (by have := HR.out; have := HCN.out; omega) HN3.out).mono ?_
        rintro e w4 ⟨rfl, h4, k4⟩
        have H4 := Lib.hid h4
        have K4 := Lib.hid k4
        clear h4 k4
        unfold ptr
        go_wp2_with fail
        go_ret2
        rw [HFE2.out]
        exact ⟨_, _, H4.out, HST.out.k.trans (HX.out.2.trans (K3.out.trans K4.out)), Or.inl ⟨rfl, _, _, rfl, rfl⟩⟩
      · have hfe := HFE.out
        rw [if_neg hz] at hfe
        have HFE2 := Lib.hid hfe
        have H3 := Lib.hid h3
        have K3 := Lib.hid k3
        generalize ({ s with d := s.d.read, misses := wrap64 (s.misses + 1) } : CS).made = t at *
        obtain ⟨t1, t2⟩ := t
        simp only at hz
        have hz' : (t1 == 0) = false := by simpa using hz
        have HZ := Lib.hid hz
        clear hfe h3 k3 c5 cf5 hz
        go_wp2_with fail
        go_ret2
        rw [HFE2.out]
        exact ⟨col3, ns3, H3.out, HST.out.k.trans (HX.out.2.trans K3.out), Or.inr ⟨HZ.out, rfl⟩⟩
    · have hfe : s.fetch n = (30, s) := by unfold CS.fetch; rw [hlook]; simp only [Option.map_none]; rw [if_neg hr]
      have HFE := Lib.hid hfe
      have H := Lib.hid h
      have HNM := Lib.hid hnm
      have HR := Lib.hid hr
      have HOK := Lib.hid ok
      clear h ha hnm hfe hlook ok hn cf cf4 c4 hp hno hr hf
      unfold ptr at *
      go_enter Try.func33, Try.ntmps33
      go_wp2_with fail
      refine (read_bad w col c db s.d n H.out.disk HOK.out.d HR.out).mono ?_
      rintro e w1 ⟨rfl, k1⟩
      have K1 := Lib.hid k1
      clear k1 hlk c0 c3
      go_wp2_with fail
      go_ret2
      rw [HFE.out]
      exact ⟨col, ns, H.out.below K1.out, KStep.below HNM.out K1.out, Or.inr ⟨by simp, rfl⟩⟩
end
end Go.Proofs.Ytjjgihaikcnjgaa
