/-
  Package heap: New. Condition: the heap has at most 4000 cells.
-/
import Derived.Test.YtffjfkmnlfndkaaHeapW
namespace Go.Proofs.Ytffjfkmnlfndkaa
open Go.RowKit
set_option linter.unusedVariables false

def newH (n : Nat) : HeapM := ⟨List.replicate n ⟨0, 0⟩, List.replicate n 0, List.replicate n 0⟩
theorem cells_made (n : Nat) : madeCells #[Value.int .i64 0, Value.int .i64 0] (n * 2) = (cellsV (List.replicate n ⟨0, 0⟩)).toArray := by
  rw [cellsV_rep]
  apply Array.toList_inj.1
  have := zero_cells n
  simpa [madeCells, Builtin.zeroCells] using this
theorem ints_made (n : Nat) : madeCells #[Value.int .i64 0] n = ((List.replicate n (0 : Int)).map intV).toArray := by
  rw [mk_list, List.map_replicate]; rfl
theorem al4 (w : World) (o1 o2 o3 o4 : Obj) : ((((w.alloc o1).alloc o2).alloc o3).alloc o4).heap[w.heap.size]? = some o1 ∧ ((((w.alloc o1).alloc o2).alloc o3).alloc o4).heap[w.heap.size + 1]? = some o2 ∧ ((((w.alloc o1).alloc o2).alloc o3).alloc o4).heap[w.heap.size + 1 + 1]? = some o3 ∧ ((((w.alloc o1).alloc o2).alloc o3).alloc o4).heap[w.heap.size + 1 + 1 + 1]? = some o4 := by
  have e : ((((w.alloc o1).alloc o2).alloc o3).alloc o4).heap = (((w.heap.push o1).push o2).push o3).push o4 := rfl
  rw [e]
  simp only [Array.getElem?_push, Array.size_push]
  refine ⟨?_, ?_, ?_, ?_⟩
  · rw [if_neg (by omega), if_neg (by omega), if_neg (by omega), if_pos trivial]
  · rw [if_neg (by omega), if_neg (by omega), if_pos trivial]
  · rw [if_neg (by omega), if_pos trivial]
  · rw [if_pos trivial]
theorem heap_new {w' : World} {hp gc gs gh n : Nat} (hn : n ≤ 4000)
    (h0 : w'.heap[hp]? = some (.cells #[.slice (some ⟨gc, 0, none⟩) n n, .slice (some ⟨gs, 0, none⟩) n n, .slice (some ⟨gh, 0, none⟩) n n] 77 (0, 0)))
    (h1 : w'.heap[gc]? = some (.cells (madeCells #[Value.int .i64 0, Value.int .i64 0] (n * 2)) 24 (0, 0))) (h2 : w'.heap[gs]? = some (.cells (madeCells #[Value.int .i64 0] n) 3 (0, 0))) (h3 : w'.heap[gh]? = some (.cells (madeCells #[Value.int .i64 0] n) 3 (0, 0)))
    (hne : gs ≠ gh ∧ hp ≠ gc ∧ hp ≠ gs ∧ hp ≠ gh ∧ gc ≠ gs ∧ gc ≠ gh) : HeapAt w' hp gc gs gh (newH n) := by
  have z : ∀ j s, (List.replicate n (0 : Int))[j]? = some s → s = 0 ∧ j < n := fun j s h => by
    rw [List.getElem?_replicate] at h
    split at h
    · exact ⟨(Option.some.inj h).symm, by assumption⟩
    · cases h
  refine ⟨?_, ?_, ?_, ?_, by simp [newH], by simp [newH], hne, by simpa [newH] using hn, fun s hs => ?_, fun k s hs => ?_⟩
  · rw [h0]; simp [newH]
  · rw [h1, cells_made]; rfl
  · rw [h2, ints_made]; rfl
  · rw [h3, ints_made]; rfl
  · have := List.eq_of_mem_replicate hs; omega
  · obtain ⟨h, h'⟩ := z k s hs; simp only [newH, List.length_replicate]; omega
set_option maxRecDepth 20000 in
set_option maxHeartbeats 1000000 in
theorem new_any (w : World) (n : Nat) (hn : n ≤ 4000) : Calls Try.prog 40 #[.int .i64 n] w fun e w' => (∃ hp, e = .returned (.tuple #[.pointer (some ⟨hp, 0, none⟩), .int .i64 0]) ∧ HeapIs w' w.heap.size w'.heap.size hp (newH n)) ∧ Kp w w' := by
  obtain ⟨i0, hT, hi, hz0, hz1, hz2, _, _⟩ := elInt
  obtain ⟨i1, hT1, hi1, hy0, hy1, hy2, _, _⟩ := elCell
  have hmk : ∀ u : World, (Instr.makeSlice 26 (.int .i64 (n : Int)) (.int .i64 (n : Int))).run Try.prog u =
      .ok (.slice (some ⟨u.heap.size, 0, none⟩) n n) (u.alloc (.cells (madeCells #[.int .i64 0] n) 3)) := fun u => by
    have h := run_make (P := Try.prog) u 26 3 i0 (.int .i64 0) hT hi hz0 .i64 .i64 (n : Int) (n : Int) (by omega) (Int.le_refl _) (by rw [hz2]; omega) (by omega)
    have e : ((n : Int)).toNat = n := by omega
    rw [e] at h
    simpa [hz1, Value.cells] using h
  have hmc : ∀ u : World, (Instr.makeSlice 38 (.int .i64 (n : Int)) (.int .i64 (n : Int))).run Try.prog u =
      .ok (.slice (some ⟨u.heap.size, 0, none⟩) n n) (u.alloc (.cells (madeCells #[.int .i64 0, .int .i64 0] (n * 2)) 24)) := fun u => by
    have h := run_make (P := Try.prog) u 38 24 i1 _ hT1 hi1 hy0 .i64 .i64 (n : Int) (n : Int) (by omega) (Int.le_refl _) (by rw [hy2]; omega) (by omega)
    have e : ((n : Int)).toNat = n := by omega
    rw [e] at h
    simpa [hy1, Value.cells] using h
  clear hT hi hz0 hz1 hz2 hT1 hi1 hy0 hy1 hy2
  have j0 : ¬ ((n : Int) < 0) := by omega
  have j1 : ¬ ((4000 : Int) < (n : Int)) := by omega
  go_enter Try.func40, Try.ntmps40
  go_wp2
  go_region
  all_goals
    go_wp2
    go_ret2
    refine ⟨⟨_, rfl, _, _, _, heap_new hn (al4 _ _ _ _ _).2.2.2 (by first | exact (al4 _ _ _ _ _).1 | exact (al4 _ _ _ _ _).2.1 | exact (al4 _ _ _ _ _).2.2.1) (by first | exact (al4 _ _ _ _ _).1 | exact (al4 _ _ _ _ _).2.1 | exact (al4 _ _ _ _ _).2.2.1) (by first | exact (al4 _ _ _ _ _).1 | exact (al4 _ _ _ _ _).2.1 | exact (al4 _ _ _ _ _).2.2.1) (by refine ⟨?_, ?_, ?_, ?_, ?_, ?_⟩ <;> omega), ?_, ?_, ?_, ?_⟩, (((((Kp.refl _).alloc _).alloc _).alloc _).alloc _).drew⟩
    all_goals (simp [World.drew] <;> omega)
end Go.Proofs.Ytffjfkmnlfndkaa
