/-
  Counts, Frames, Unpin, New, add of package cache.
-/
import Derived.Test.YtjjgihaikcnjgaaCTurn
namespace Go.Proofs.Ytjjgihaikcnjgaa
open Go.RowKit Go.Maps
set_option linter.unusedSimpArgs false
set_option linter.unusedVariables false
set_option maxRecDepth 100000

section
variable {w : World} {col : Nat → Nat} {c b db rb mb : Nat} {s : CS} {ns : List (Nat × Frm)}
theorem counts_any (hB : w.heap[b]? = some (.cells (cacheC db rb mb s) 58 (0, 0))) : Calls Try.prog 25 #[ptr b] w fun e w' => e = .returned (.agg #[.int .i64 s.hits, .int .i64 s.misses, .int .i64 s.writes, .int .i64 s.gone]) ∧ Below w.heap.size w w' := by
  obtain ⟨-, -, -, -, c4, c5, c6, c7, cf⟩ := cells_cache hB
  have hlt := lt_of_block hB
  go_enter Try.func25, Try.ntmps25
  go_wp2_with fail
  refine (cmade_any (block_old _ hB)).mono ?_
  rintro e w1 ⟨rfl, rfl⟩
  unfold ptr
  go_wp2_with fail
  refine bodyPost_ret (v := .agg #[.int .i64 s.hits, .int .i64 s.misses, .int .i64 s.writes, .int .i64 s.gone]) (by simp [results, Try.results25, go_sem, *]) rfl ?_
  exact ⟨rfl, (Below.refl _ _).alloc (Nat.le_refl _) _⟩
def colN (col : Nat → Nat) (n c : Nat) (k : Nat) : Nat := if k < n then col k else if k < n + 3 then c + 3 else 0
set_option maxHeartbeats 1000000 in
theorem newcache_ok (w : World) (db : Nat) (room : Int) (h : 1 ≤ room ∧ room ≤ 4096) : Calls Try.prog 26 #[ptr db, .int .i64 room] w fun e w' => e = .returned (.tuple #[ptr (w.heap.size + 2), .int .i64 0]) ∧ Below w.heap.size w w' ∧ w'.heap.size = w.heap.size + 3 ∧
    w'.heap[w.heap.size]? = some (.cells (nodeC w.heap.size w.heap.size f0 (.slice none 0 0)) 78 (0, 0)) ∧ w'.heap[w.heap.size + 1]? = some (.map #[] 0) ∧ ∀ d : DS, w'.heap[w.heap.size + 2]? = some (.cells (cacheC db w.heap.size (w.heap.size + 1) (CS.new d room)) 58 (0, 0)) := by
  have hmm := @run_makeMap Try.prog
  have h1 : ¬ room < 1 := by omega
  have h2 : ¬ (4096 : Int) < room := by omega
  clear h
  unfold ptr
  go_enter Try.func26, Try.ntmps26
  go_wp2_with fail
  obtain ⟨o0, ho0⟩ : ∃ o, o = Obj.cells #[.pointer none, .pointer none, .int .i64 0, .int .i64 0, .bool false, .int .u64 0, .slice none 0 0] 78 (0, 0) := ⟨_, rfl⟩
  obtain ⟨o2, ho2⟩ : ∃ o, o = Obj.cells #[.pointer (some ⟨db, 0, none⟩), .int .i64 room, .pointer (some ⟨w.heap.size, 0, none⟩), .map (some (w.heap.size + 1)), .int .i64 0, .int .i64 0, .int .i64 0, .int .i64 0] 58 (0, 0) := ⟨_, rfl⟩
  rw [← ho0, ← ho2]
  have e1 : (w.alloc o0).heap.size = w.heap.size + 1 := by simp
  have e2 : ((w.alloc o0).alloc (.map #[] 0)).heap.size = w.heap.size + 2 := by simp
  have B0 : Below w.heap.size w (((w.alloc o0).alloc (.map #[] 0)).alloc o2) := (((Below.refl _ _).alloc (Nat.le_refl _) _).alloc (by omega) _).alloc (by omega) _
  have z0 : (((w.alloc o0).alloc (.map #[] 0)).alloc o2).heap.size = w.heap.size + 3 := by simp
  have g0 := block_old o2 (block_old (.map #[] 0) (block_new w o0))
  have g1 := block_old o2 (block_new (w.alloc o0) (.map #[] 0))
  have g2 := block_new ((w.alloc o0).alloc (.map #[] 0)) o2
  rw [e1] at g1
  rw [e2] at g2
  generalize ((w.alloc o0).alloc (.map #[] 0)).alloc o2 = w2 at *
  clear e1 e2
  subst ho0 ho2
  generalize hN : w.heap.size = N at *
  have k0 : w2.cell? ⟨N, 0, none⟩ = some (.pointer none) := by rw [cell_of_block g0]; rfl
  have k1 : w2.cell? ⟨N, 1, none⟩ = some (.pointer none) := by rw [cell_of_block g0]; rfl
  have k2 : w2.cell? ⟨N + 2, 2, none⟩ = some (.pointer (some ⟨N, 0, none⟩)) := by rw [cell_of_block g2]; rfl
  have q0 : w2.frozen? ⟨N, 0, none⟩ = false := free_of_block g0 0
  have q1 : w2.frozen? ⟨N, 1, none⟩ = false := free_of_block g0 1
  have HF : Hid (∀ W : World, W = ((w2.setCell ⟨N, 0, none⟩ (ptr N)).setCell ⟨N, 1, none⟩ (ptr N)).drew → Below N w W ∧ W.heap.size = N + 3 ∧ W.heap[N]? = some (.cells (nodeC N N f0 (.slice none 0 0)) 78 (0, 0)) ∧ W.heap[N + 1]? = some (.map #[] 0) ∧ ∀ d : DS, W.heap[N + 2]? = some (.cells (cacheC db N (N + 1) (CS.new d room)) 58 (0, 0))) := fun W e => by
    have hk := (Chg.refl (fun i => i = N) w2).setCell ⟨N, 0, none⟩ (ptr N) (fun _ => rfl) |>.setCell ⟨N, 1, none⟩ (ptr N) (fun _ => rfl)
    have hb : Below N w2 ((w2.setCell ⟨N, 0, none⟩ (ptr N)).setCell ⟨N, 1, none⟩ (ptr N)) := hk.below (by omega) (fun i hi e => by omega)
    subst e
    refine ⟨⟨(B0.trans hb).os, (B0.trans hb).tape, (B0.trans hb).output, (B0.trans hb).size, (B0.trans hb).block⟩, by show ((w2.setCell _ _).setCell _ _).heap.size = _; simpa using z0, ?_, ?_, fun d => ?_⟩
    · show ((w2.setCell _ _).setCell _ _).heap[N]? = _
      rw [block_set (block_set g0 0 (ptr N)) 1 (ptr N)]; rfl
    · show ((w2.setCell _ _).setCell _ _).heap[N + 1]? = _
      rw [set_other _ _ _ _ (by omega), set_other _ _ _ _ (by omega)]; exact g1
    · show ((w2.setCell _ _).setCell _ _).heap[N + 2]? = _
      rw [set_other _ _ _ _ (by omega), set_other _ _ _ _ (by omega)]; exact g2
  have n1 : ¬ N + 2 = N := by omega
  have n2 : ¬ N = N + 2 := by omega
  have HN := Lib.hid hN
  clear g0 g1 g2 z0 B0 hN
  go_region
  go_wp2
  go_ret2
  rw [HN.out]
  exact ⟨rfl, HF.out _ rfl⟩
end
end Go.Proofs.Ytjjgihaikcnjgaa
