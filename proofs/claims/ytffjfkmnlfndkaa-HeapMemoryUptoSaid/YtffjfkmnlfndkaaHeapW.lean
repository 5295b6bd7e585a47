/-
  Package heap: what writes. Condition: the heap has at most 4000 cells.
-/
import Derived.Test.YtffjfkmnlfndkaaHeap
import Derived.Test.YtffjfkmnlfndkaaHeapL
import Derived.Test.YtffjfkmnlfndkaaRegionL
import Derived.Test.YtffjfkmnlfndkaaRegionP
import Derived.Test.YtffjfkmnlfndkaaRegionW
import Derived.Lib.SliceRun
import Derived.Deep.QuietTactic
import Derived.BigQuiet
namespace Go.Proofs.Ytffjfkmnlfndkaa
open Go.RowKit
set_option linter.unusedVariables false

theorem set_other {w : World} {g k : Nat} (i : Nat) (hk : k ≠ g) (v : Value) : (w.setCell ⟨g, i, none⟩ v).heap[k]? = w.heap[k]? := by
  simp [World.setCell, Array.getElem?_modify, Ne.symm hk]
/-- The blocks below lo and those from hi on are as they were. -/
structure Hx (lo hi : Nat) (w w' : World) : Prop where
  os : w'.os = w.os
  tape : w'.tape = w.tape
  output : w'.output = w.output
  size : w.heap.size ≤ w'.heap.size
  low : ∀ k, k < lo → w'.heap[k]? = w.heap[k]?
  high : ∀ k, hi ≤ k → k < w.heap.size → w'.heap[k]? = w.heap[k]?
theorem Hx.refl (lo hi : Nat) (w : World) : Hx lo hi w w := ⟨rfl, rfl, rfl, Nat.le_refl _, fun _ _ => rfl, fun _ _ _ => rfl⟩
theorem Hx.trans {lo hi : Nat} {a b c : World} (h : Hx lo hi a b) (k : Hx lo hi b c) : Hx lo hi a c :=
  ⟨k.os.trans h.os, k.tape.trans h.tape, k.output.trans h.output, Nat.le_trans h.size k.size, fun i hi => (k.low i hi).trans (h.low i hi), fun i h1 h2 => (k.high i h1 (Nat.lt_of_lt_of_le h2 h.size)).trans (h.high i h1 h2)⟩
theorem Hx.of_kp {lo hi : Nat} {w w' : World} (h : Kp w w') (hl : lo ≤ w.heap.size) : Hx lo hi w w' := ⟨h.os, h.tape, h.output, h.size, fun k hk => h.block k (by omega), fun k _ hk => h.block k hk⟩
theorem Hx.below {lo hi : Nat} {w w' : World} (h : Hx lo hi w w') : Below lo w w' := ⟨h.os, h.tape, h.output, h.size, h.low⟩
theorem Hx.setCell {lo hi g i : Nat} {w w' : World} (h : Hx lo hi w w') (h1 : lo ≤ g) (h2 : g < hi) (v : Value) : Hx lo hi w (w'.setCell ⟨g, i, none⟩ v) := by
  have e : ∀ k, k ≠ g → (w'.setCell ⟨g, i, none⟩ v).heap[k]? = w'.heap[k]? := fun k hk => set_other i hk v
  refine ⟨h.os, h.tape, h.output, by simpa using h.size, fun k hk => ?_, fun k hk hs => ?_⟩
  · rw [e k (by omega)]; exact h.low k hk
  · rw [e k (by omega)]; exact h.high k hk hs
theorem ownsRow_hx {lo hi : Nat} {w w' : World} {e : TypeId} {size n : Nat} {v : Value} {xs : List Value} (h : w.ownsRow hi e size v n xs) (hx : Hx lo hi w w') : w'.ownsRow hi e size v n xs := by
  obtain ⟨h1, h2⟩ := h
  refine ⟨h1, ?_⟩
  rcases h2 with h2 | ⟨g, cap, cur, hv, hb, hg, r⟩
  · exact .inl h2
  · exact .inr ⟨g, cap, cur, hv, hb, by rw [hx.high g hb (Array.getElem?_eq_some_iff.1 hg).1]; exact hg, r⟩
/-- A heap at hp, all of it from lo on and below hi. -/
def HeapIs (w : World) (lo hi hp : Nat) (H : HeapM) : Prop := ∃ gc gs gh, HeapAt w hp gc gs gh H ∧ (lo ≤ gc ∧ gc < hi) ∧ (lo ≤ gs ∧ gs < hi) ∧ (lo ≤ gh ∧ gh < hi) ∧ (lo ≤ hp ∧ hp < hi)
theorem HeapAt.below {w w' : World} {B hp gc gs gh : Nat} {H : HeapM} (h : HeapAt w hp gc gs gh H) (hb : Below B w w') (h1 : gc < B) (h2 : gs < B) (h3 : gh < B) (h4 : hp < B) : HeapAt w' hp gc gs gh H :=
  ⟨by rw [hb.block _ h4]; exact h.head, by rw [hb.block _ h1]; exact h.cell, by rw [hb.block _ h2]; exact h.size, by rw [hb.block _ h3]; exact h.shape, h.lsz, h.lsh, h.ne, h.le, h.ok, h.fit⟩
theorem HeapIs.below {w w' : World} {lo hi hp : Nat} {H : HeapM} (h : HeapIs w lo hi hp H) (hb : Below hi w w') : HeapIs w' lo hi hp H := by
  obtain ⟨gc, gs, gh, h, h1, h2, h3, h4⟩ := h
  exact ⟨gc, gs, gh, h.below hb h1.2 h2.2 h3.2 h4.2, h1, h2, h3, h4⟩
theorem HeapIs.kp {w w' : World} {lo hi hp : Nat} {H : HeapM} (h : HeapIs w lo hi hp H) (hk : Kp w w') : HeapIs w' lo hi hp H := by
  obtain ⟨gc, gs, gh, h, r⟩ := h
  exact ⟨gc, gs, gh, h.kp hk, r⟩
theorem heap_fz {w : World} {g i : Nat} {cs : Array Value} {T : TypeId} (h : w.heap[g]? = some (.cells cs T (0, 0))) : w.frozen? ⟨g, i, none⟩ = false := by simp [World.frozen?, h]
/-- Two cells of a row of structs of two cells are written. -/
theorem heap_set2 {w : World} {g : Nat} {l : List Value} {T : TypeId} (h : w.heap[g]? = some (.cells l.toArray T (0, 0))) (i : Nat) (u v : Value) : ((w.setCell ⟨g, i, none⟩ u).setCell ⟨g, i + 1, none⟩ v).heap[g]? = some (.cells ((l.set i u).set (i + 1) v).toArray T (0, 0)) := heap_set (heap_set h i u) (i + 1) v
theorem cellsV_set : ∀ (l : List CellM) (k : Nat) (c : CellM), k < l.length → ((cellsV l).set (k * 2) (.int .i64 c.tag)).set (k * 2 + 1) (.int .i64 c.n) = cellsV (l.set k c)
  | [], _, _, h => by simp at h
  | d :: l, 0, c, h => by simp [cellsV]
  | d :: l, k + 1, c, h => by
    have ih := cellsV_set l k c (by simpa using h)
    have e1 : (k + 1) * 2 = k * 2 + 1 + 1 := by omega
    rw [e1]
    simp only [cellsV, List.map_cons, List.flatten_cons, List.cons_append, List.nil_append, List.set_cons_succ] at ih ⊢
    rw [ih]
/-- The heap behind a store. -/
theorem HeapAt.put {w w' : World} {hp gc gs gh : Nat} {H : HeapM} (h : HeapAt w hp gc gs gh H) (hk : Kp w w') {k : Nat} (hl : k < H.cells.length) (c : CellM) : HeapAt ((w'.setCell ⟨gc, k * 2, none⟩ (.int .i64 c.tag)).setCell ⟨gc, k * 2 + 1, none⟩ (.int .i64 c.n)) hp gc gs gh { H with cells := H.cells.set k c } := by
  have h' := h.kp hk
  obtain ⟨n1, n2, n3, n4, n5, n6⟩ := h.ne
  have e : ∀ b, b ≠ gc → ((w'.setCell ⟨gc, k * 2, none⟩ (.int .i64 c.tag)).setCell ⟨gc, k * 2 + 1, none⟩ (.int .i64 c.n)).heap[b]? = w'.heap[b]? := fun b hb => (set_other _ hb _).trans (set_other _ hb _)
  refine ⟨by rw [e _ n2, List.length_set]; exact h'.head, ?_, by rw [e _ (Ne.symm n5)]; exact h'.size, by rw [e _ (Ne.symm n6)]; exact h'.shape, by rw [List.length_set]; exact h.lsz, by rw [List.length_set]; exact h.lsh, h.ne, by rw [List.length_set]; exact h.le, h.ok, by rw [List.length_set]; exact h.fit⟩
  rw [heap_set2 h'.cell]
  dsimp only
  rw [cellsV_set _ _ _ hl]
/-! ### Store -/
set_option maxRecDepth 20000 in
set_option maxHeartbeats 1000000 in
theorem store_yes (w : World) (hp gc gs gh : Nat) (H : HeapM) (p i : Int) (k : Nat) (c : CellM) (h : HeapAt w hp gc gs gh H) (hpl : placeM H p i = ((k : Int), 0)) (hk : k < H.cells.length) (k0 : 0 ≤ c.tag) (k7 : c.tag ≤ 7) : Calls Try.prog 16 #[.pointer (some ⟨hp, 0, none⟩), .int .i64 p, .int .i64 i, .agg #[.int .i64 c.tag, .int .i64 c.n]] w fun en w' => en = .returned (.int .i64 0) ∧ ∃ w1, Kp w w1 ∧ w' = (w1.setCell ⟨gc, k * 2, none⟩ (.int .i64 c.tag)).setCell ⟨gc, k * 2 + 1, none⟩ (.int .i64 c.n) := by
  have HH := hid h; have HP := hid hpl
  have i1 : (k : Int) < (H.cells.length : Int) := by omega
  have i0 : (0 : Int) ≤ (k : Int) := by omega
  clear h hpl
  go_enter Try.func16, Try.ntmps16
  go_wp2_with (go_at_call 41; go_must (refine (place_any _ hp gc gs gh H p i (HH.out.kp ((Kp.refl _).alloc _))).mono ?_); rintro en w' ⟨rfl, rfl⟩; rw [HP.out])
  have HW : Hid (HeapAt (w.alloc (.cells #[.int .i64 c.tag, .int .i64 c.n] 24)) hp gc gs gh H) := hid (HH.out.kp ((Kp.refl _).alloc _))
  have HK : Hid (Kp w (w.alloc (.cells #[.int .i64 c.tag, .int .i64 c.n] 24))) := hid ((Kp.refl _).alloc _)
  have HB : Hid ((w.alloc (.cells #[.int .i64 c.tag, .int .i64 c.n] 24)).cell? ⟨w.heap.size, 0, none⟩ = some (.int .i64 c.tag) ∧ (w.alloc (.cells #[.int .i64 c.tag, .int .i64 c.n] 24)).cell? ⟨w.heap.size, 1, none⟩ = some (.int .i64 c.n) ∧ w.heap.size < (w.alloc (.cells #[.int .i64 c.tag, .int .i64 c.n] 24)).heap.size) := hid ⟨by simp, by simp, by simp⟩
  generalize (w.alloc (.cells #[.int .i64 c.tag, .int .i64 c.n] 24)) = W0 at HW HK HB ⊢
  refine wp_region_last 7 [[], [0], [1], [2], [], [], [3, 4], [5, 6]] (fun u => Kp W0 u)
    [fun (y : Value) (u : World) => y = (.pointer (some ⟨hp, 0, none⟩) : Value),
     fun (y : Value) (u : World) => y = (.pointer (some ⟨hp, 0, none⟩) : Value),
     fun (y : Value) (u : World) => y = (.pointer (some ⟨hp, 0, none⟩) : Value),
     fun (y : Value) (u : World) => y = (.slice (some ⟨gc, 0, none⟩) H.cells.length H.cells.length : Value),
     fun (y : Value) (u : World) => y = (.int .i64 k : Value),
     fun (y : Value) (u : World) => y = (.agg #[.int .i64 c.tag, .int .i64 c.n] : Value),
     fun (y : Value) (u : World) => y = (.pointer (some ⟨gc, k * 2, none⟩) : Value)]
    (by kernel_rfl) (by kernel_rfl) (by kernel_rfl) (by kernel_rfl) (by kernel_rfl) (by kernel_rfl) ((Kp.refl _).drew) (fun _ _ hk h => h.trans hk) ⟨fun _ _ _ _ h => h, fun _ _ _ _ h => h, fun _ _ _ _ h => h, fun _ _ _ _ h => h, fun _ _ _ _ h => h, fun _ _ _ _ h => h, fun _ _ _ _ h => h, trivial⟩ ⟨?sb0, ?sb1, ?sb2, ?sb3, ?sb4, ?sb5, ?sb6, trivial⟩ ⟨?hEb, trivial⟩
  case sb0 =>
    intro x u hg hd K hK
    clear hd
    refine ⟨?_⟩
    simp only [putsFrom, Act.put, List.setIfInBounds_toArray, List.set_cons_zero, List.set_cons_succ, Nat.reduceAdd] at hK ⊢
    go_simp
    exact hK.out _ _ (Kp.refl _) rfl
  case sb1 =>
    intro x u hg hd K hK
    have d0 : (x 0) = .pointer (some ⟨hp, 0, none⟩) := And.left hd
    clear hd
    refine ⟨?_⟩
    simp only [putsFrom, Act.put, List.setIfInBounds_toArray, List.set_cons_zero, List.set_cons_succ, Nat.reduceAdd, d0] at hK ⊢
    go_simp
    exact hK.out _ _ (Kp.refl _) rfl
  case sb2 =>
    intro x u hg hd K hK
    have d1 : (x 1) = .pointer (some ⟨hp, 0, none⟩) := And.left hd
    clear hd
    refine ⟨?_⟩
    simp only [putsFrom, Act.put, List.setIfInBounds_toArray, List.set_cons_zero, List.set_cons_succ, Nat.reduceAdd, d1] at hK ⊢
    go_simp
    exact hK.out _ _ (Kp.refl _) rfl
  case sb3 =>
    intro x u hg hd K hK
    have d2 : (x 2) = .pointer (some ⟨hp, 0, none⟩) := And.left hd
    clear hd
    have q0 := (HW.out.kp hg).h0
    refine ⟨?_⟩
    simp only [putsFrom, Act.put, List.setIfInBounds_toArray, List.set_cons_zero, List.set_cons_succ, Nat.reduceAdd, d2] at hK ⊢
    go_simp
    exact hK.out _ _ (Kp.refl _) rfl
  case sb4 =>
    intro x u hg hd K hK
    clear hd
    refine ⟨?_⟩
    simp only [putsFrom, Act.put, List.setIfInBounds_toArray, List.set_cons_zero, List.set_cons_succ, Nat.reduceAdd] at hK ⊢
    go_simp
    exact hK.out _ _ (Kp.refl _) rfl
  case sb5 =>
    intro x u hg hd K hK
    clear hd
    have q0 := ((Kp.cells hg).1 _ 0 HB.out.2.2).trans HB.out.1
    have q1 := ((Kp.cells hg).1 _ 1 HB.out.2.2).trans HB.out.2.1
    refine ⟨?_⟩
    simp only [putsFrom, Act.put, List.setIfInBounds_toArray, List.set_cons_zero, List.set_cons_succ, Nat.reduceAdd] at hK ⊢
    go_simp
    exact hK.out _ _ (Kp.refl _) rfl
  case sb6 =>
    intro x u hg hd K hK
    have d3 : (x 3) = .slice (some ⟨gc, 0, none⟩) H.cells.length H.cells.length := And.left hd
    have d4 : (x 4) = .int .i64 k := And.left (And.right hd)
    clear hd
    refine ⟨?_⟩
    simp only [putsFrom, Act.put, List.setIfInBounds_toArray, List.set_cons_zero, List.set_cons_succ, Nat.reduceAdd, d3, d4] at hK ⊢
    go_simp
    exact hK.out _ _ (Kp.refl _) rfl
  intro x u hg he K hK
  have d0 : (x 0) = .pointer (some ⟨hp, 0, none⟩) := And.left he
  have d1 : (x 1) = .pointer (some ⟨hp, 0, none⟩) := And.left (And.right he)
  have d2 : (x 2) = .pointer (some ⟨hp, 0, none⟩) := And.left (And.right (And.right he))
  have d3 : (x 3) = .slice (some ⟨gc, 0, none⟩) H.cells.length H.cells.length := And.left (And.right (And.right (And.right he)))
  have d4 : (x 4) = .int .i64 k := And.left (And.right (And.right (And.right (And.right he))))
  have d5 : (x 5) = .agg #[.int .i64 c.tag, .int .i64 c.n] := And.left (And.right (And.right (And.right (And.right (And.right he)))))
  have d6 : (x 6) = .pointer (some ⟨gc, k * 2, none⟩) := And.left (And.right (And.right (And.right (And.right (And.right (And.right he))))))
  clear he
  have HG := hid hg
  have qf := heap_fz (i := k * 2) (HW.out.kp hg).cell
  have qf1 := heap_fz (i := k * 2 + 1) (HW.out.kp hg).cell
  obtain ⟨d, hd⟩ : ∃ d, H.cells[k]? = some d := ⟨H.cells[k], List.getElem?_eq_getElem hk⟩
  obtain ⟨qc0, qc1⟩ := (HW.out.kp hg).ce hd
  refine ⟨?_⟩
  simp only [putsFrom, Act.put, List.setIfInBounds_toArray, List.set_cons_zero, List.set_cons_succ, Nat.reduceAdd, d0, d1, d2, d3, d4, d5, d6] at hK ⊢
  go_simp
  refine hK.out undef _ ⟨?_⟩
  clear hK
  clear d0 d1 d2 d3 d4 d5 d6
  go_wp2
  go_ret
  exact ⟨rfl, _, HK.out.trans HG.out, rfl⟩

def storeC (H : HeapM) (p i t : Int) : Int := if (placeM H p i).2 ≠ 0 then (placeM H p i).2 else if t < 0 ∨ 7 < t then 13 else 0
def storeH (H : HeapM) (p i : Int) (c : CellM) : HeapM := if storeC H p i c.tag = 0 then { H with cells := H.cells.set (placeM H p i).1.toNat c } else H
theorem place_in {w : World} {hp gc gs gh : Nat} {H : HeapM} (h : HeapAt w hp gc gs gh H) {p i : Int} (hz : (placeM H p i).2 = 0) : ∃ k : Nat, placeM H p i = ((k : Int), 0) ∧ k < H.cells.length := by
  unfold placeM at hz ⊢
  split at hz
  · simp at hz
  · rename_i hb
    rw [if_neg hb]
    split at hz
    · simp at hz
    · rename_i hi
      rw [if_neg hi]
      have hb' : isB H p = true := by simpa using hb
      unfold isB at hb'
      obtain ⟨b0, b1, b2⟩ := of_decide_eq_true hb'
      have hk : p.toNat < H.sizes.length := by rw [h.lsz]; omega
      have := h.fit p.toNat _ (List.getElem?_eq_getElem hk)
      have e : H.sizes.getD p.toNat 0 = H.sizes[p.toNat] := by simp [List.getD, List.getElem?_eq_getElem hk]
      rw [e] at b2 hi
      exact ⟨(p + 1 + i).toNat, by congr 1; omega, by omega⟩
theorem place_zero {H : HeapM} {p i : Int} (hz : (placeM H p i).2 ≠ 0) : placeM H p i = (0, (placeM H p i).2) := by
  unfold placeM at hz ⊢
  split
  · rfl
  · split
    · rfl
    · rename_i h1 h2; rw [if_neg h1, if_neg h2] at hz; exact absurd rfl hz
/-- Store, whole. -/
theorem store_any (w : World) (lo hi hp : Nat) (H : HeapM) (p i : Int) (c : CellM) (h : HeapIs w lo hi hp H) (hl : lo ≤ w.heap.size) : Calls Try.prog 16 #[.pointer (some ⟨hp, 0, none⟩), .int .i64 p, .int .i64 i, .agg #[.int .i64 c.tag, .int .i64 c.n]] w fun en w' => en = .returned (.int .i64 (storeC H p i c.tag)) ∧ HeapIs w' lo hi hp (storeH H p i c) ∧ Hx lo hi w w' := by
  obtain ⟨gc, gs, gh, hat, h1, h2, h3, h4⟩ := h
  by_cases hz : (placeM H p i).2 = 0
  · obtain ⟨k, hpl, hk⟩ := place_in hat hz
    by_cases ht : c.tag < 0 ∨ 7 < c.tag
    · have e : storeC H p i c.tag = 13 := by unfold storeC; rw [if_neg (by simp [hz]), if_pos ht]
      refine (store_kind w hp gc gs gh H p i c.tag c.n k hat hpl ht).mono ?_
      rintro en w' ⟨rfl, hk'⟩
      refine ⟨by rw [e], ?_, Hx.of_kp hk' hl⟩
      unfold storeH; rw [e, if_neg (by decide)]
      exact ⟨gc, gs, gh, hat.kp hk', h1, h2, h3, h4⟩
    · have e : storeC H p i c.tag = 0 := by unfold storeC; rw [if_neg (by simp [hz]), if_neg ht]
      refine (store_yes w hp gc gs gh H p i k c hat hpl hk (by omega) (by omega)).mono ?_
      rintro en w' ⟨rfl, w1, hk', rfl⟩
      refine ⟨by rw [e], ?_, ((Hx.of_kp hk' hl).setCell h1.1 h1.2 _).setCell h1.1 h1.2 _⟩
      unfold storeH; rw [e, if_pos rfl, hpl]
      exact ⟨gc, gs, gh, hat.put hk' hk c, h1, h2, h3, h4⟩
  · have e : storeC H p i c.tag = (placeM H p i).2 := by unfold storeC; rw [if_pos hz]
    refine (store_no w hp gc gs gh H p i _ c.tag c.n hat (place_zero hz) hz).mono ?_
    rintro en w' ⟨rfl, hk'⟩
    refine ⟨by rw [e], ?_, Hx.of_kp hk' hl⟩
    unfold storeH; rw [e, if_neg hz]
    exact ⟨gc, gs, gh, hat.kp hk', h1, h2, h3, h4⟩

/-! ### Alloc -/
def clearM (C : List CellM) (k n : Nat) : List CellM := C.take k ++ (List.replicate n ⟨0, 0⟩ ++ C.drop (k + n))
def allocH (H : HeapM) (k : Nat) (n t : Int) : HeapM := ⟨clearM H.cells k (n.toNat + 1), H.sizes.set k (n + 1), H.shapes.set k t⟩
theorem clearM_len (C : List CellM) (k n : Nat) (h : k + n ≤ C.length) : (clearM C k n).length = C.length := by
  unfold clearM; simp; omega
theorem cellsV_app (a b : List CellM) : cellsV (a ++ b) = cellsV a ++ cellsV b := by unfold cellsV; simp
theorem cellsV_rep : ∀ n, cellsV (List.replicate n ⟨0, 0⟩) = List.replicate (n * 2) (.int .i64 0)
  | 0 => rfl
  | n + 1 => by
    rw [List.replicate_succ, show (⟨0, 0⟩ : CellM) :: List.replicate n ⟨0, 0⟩ = [⟨0, 0⟩] ++ List.replicate n ⟨0, 0⟩ from rfl, cellsV_app, cellsV_rep n, show (n + 1) * 2 = (n * 2 + 1) + 1 by omega, List.replicate_succ, List.replicate_succ]
    rfl
theorem cellsV_take (C : List CellM) (k : Nat) : cellsV (C.take k) = (cellsV C).take (k * 2) := by
  rcases Nat.lt_or_ge k C.length with h | h
  · have := congrArg (List.take (k * 2)) (congrArg cellsV (List.take_append_drop k C))
    rw [cellsV_app, List.take_append_of_le_length (by rw [cellsV_len, List.length_take]; omega), List.take_of_length_le (by rw [cellsV_len, List.length_take]; omega)] at this
    exact this
  · rw [List.take_of_length_le h, List.take_of_length_le (by rw [cellsV_len]; omega)]
theorem cellsV_drop (C : List CellM) (k : Nat) : cellsV (C.drop k) = (cellsV C).drop (k * 2) := by
  rcases Nat.lt_or_ge k C.length with h | h
  · have := congrArg (List.drop (k * 2)) (congrArg cellsV (List.take_append_drop k C))
    rw [cellsV_app, List.drop_append_of_le_length (by rw [cellsV_len, List.length_take]; omega), List.drop_of_length_le (by rw [cellsV_len, List.length_take]; omega)] at this
    simpa using this
  · rw [List.drop_of_length_le h, List.drop_of_length_le (by rw [cellsV_len]; omega)]; rfl
theorem zero_cells (n : Nat) : (Builtin.zeroCells #[Value.int .i64 0, Value.int .i64 0] n).toList = List.replicate (n * 2) (Value.int .i64 0) := by
  simp [Builtin.zeroCells]
  apply List.ext_getElem
  · simp
  · intro i h1 h2
    simp
    have : i % 2 = 0 ∨ i % 2 = 1 := by omega
    rcases this with h | h <;> simp [h]
theorem run_clear_cells (w : World) (ty : TypeId) (b o n c : Nat) (hn : 0 < n) (hc : ∀ j, j < n * 2 → (w.cell? ⟨b, o + j, none⟩).isSome = true) (hf : ∀ j, w.frozen? ⟨b, j, none⟩ = false) :
    (Builtin.clear_ #[38] ty #[.slice (some ⟨b, o, none⟩) n c]).run Try.prog w = .ok (.tuple #[]) (w.setCells b o (List.replicate (n * 2) (.int .i64 0))) := by
  have hst := run_storeCells_cells (P := Try.prog) b o (List.replicate (n * 2) (Value.int .i64 0)) 0 w (by simpa using hc) (by intro j _; exact hf _) (by intro v hv'; rw [List.eq_of_mem_replicate hv']; rfl)
  simp only [Nat.add_zero] at hst
  obtain ⟨hi, hz, _⟩ := elCell
  obtain ⟨m, rfl⟩ : ∃ m, n = m + 1 := ⟨n - 1, by omega⟩
  have hzv : ∀ w, (zeroValue 24).run Try.prog w = .ok (.agg #[.int .i64 0, .int .i64 0]) w := fun w => by kernel_rfl
  have hzc := zero_cells (m + 1)
  have e : (Value.agg #[Value.int .i64 0, Value.int .i64 0]).cells = #[Value.int .i64 0, Value.int .i64 0] := rfl
  simp [Builtin.clear_, run_underlying Try.underlying38, hzv, e, hzc, hst]
theorem setCells_heap (g : Nat) (T : TypeId) : ∀ (vs : List Value) (o : Nat) (l : List Value) (w : World), w.heap[g]? = some (.cells l.toArray T (0, 0)) → o + vs.length ≤ l.length → (w.setCells g o vs).heap[g]? = some (.cells (l.take o ++ (vs ++ l.drop (o + vs.length))).toArray T (0, 0))
  | [], o, l, w, h, hl => by show w.heap[g]? = _; simpa using h
  | v :: vs, o, l, w, h, hl => by
    simp only [List.length_cons] at hl
    have h1 := heap_set h o v
    have := setCells_heap g T vs (o + 1) (l.set o v) _ h1 (by rw [List.length_set]; omega)
    have e1 : (l.set o v).take (o + 1) = l.take o ++ [v] := by
      rw [List.take_set, List.take_succ_eq_append_getElem (by omega), List.set_append_right _ _ (by simp; omega)]
      simp [Nat.min_eq_left (show o ≤ l.length by omega)]
    have e2 : (l.set o v).drop (o + 1 + vs.length) = l.drop (o + (vs.length + 1)) := by
      rw [List.drop_set, if_pos (by omega)]; congr 1; omega
    rw [e1, e2, List.append_assoc] at this
    exact this
theorem Hx.setCells {lo hi g : Nat} (h1 : lo ≤ g) (h2 : g < hi) : ∀ (vs : List Value) (o : Nat) (w w' : World), Hx lo hi w w' → Hx lo hi w (w'.setCells g o vs)
  | [], _, _, _, h => h
  | v :: vs, o, w, w', h => Hx.setCells h1 h2 vs (o + 1) w _ (h.setCell h1 h2 v)
theorem setCells_other {g k : Nat} (hk : k ≠ g) : ∀ (vs : List Value) (o : Nat) (w : World), (w.setCells g o vs).heap[k]? = w.heap[k]?
  | [], _, _ => rfl
  | v :: vs, o, w => (setCells_other hk vs (o + 1) _).trans (set_other o hk v)
theorem clear_cells (C : List CellM) (k n : Nat) (h : k + n ≤ C.length) : (cellsV C).take (k * 2) ++ (List.replicate (n * 2) (.int .i64 0) ++ (cellsV C).drop (k * 2 + n * 2)) = cellsV (clearM C k n) := by
  unfold clearM
  rw [cellsV_app, cellsV_app, cellsV_take, cellsV_drop, cellsV_rep]
  congr 3; omega
theorem map_set_int (l : List Int) (k : Nat) (v : Int) : (l.map intV).set k (.int .i64 v) = (l.set k v).map intV := by rw [List.map_set]; rfl
/-- The heap behind an allocation. -/
theorem HeapAt.alloc_ {w w1 : World} {hp gc gs gh : Nat} {H : HeapM} (h : HeapAt w hp gc gs gh H) {k : Nat} {n t : Int} (n0 : 0 ≤ n) (hk : (k : Int) + (n + 1) ≤ H.cells.length)
    (h1 : w1 = (((w.setCells gc (k * 2) (List.replicate ((n.toNat + 1) * 2) (.int .i64 0))).drew.setCell ⟨gs, k, none⟩ (.int .i64 (n + 1))).setCell ⟨gh, k, none⟩ (.int .i64 t))) : HeapAt w1 hp gc gs gh (allocH H k n t) := by
  subst h1
  obtain ⟨n1, n2, n3, n4, n5, n6⟩ := h.ne
  have hle := h.le
  have hlen : (clearM H.cells k (n.toNat + 1)).length = H.cells.length := clearM_len _ _ _ (by omega)
  have e1 : ((w.setCells gc (k * 2) (List.replicate ((n.toNat + 1) * 2) (.int .i64 0))).drew).heap[gc]? = some (.cells (cellsV (clearM H.cells k (n.toNat + 1))).toArray 24 (0, 0)) := by
    show (w.setCells gc (k * 2) (List.replicate ((n.toNat + 1) * 2) (.int .i64 0))).heap[gc]? = _
    rw [setCells_heap gc _ _ _ _ _ h.cell (by rw [cellsV_len, List.length_replicate]; omega), List.length_replicate, clear_cells _ _ _ (by omega)]
  have e2 : ∀ b, b ≠ gc → ((w.setCells gc (k * 2) (List.replicate ((n.toNat + 1) * 2) (.int .i64 0))).drew).heap[b]? = w.heap[b]? := fun b hb => setCells_other hb _ _ w
  refine ⟨?_, ?_, ?_, ?_, ?_, ?_, h.ne, ?_, ?_, ?_⟩
  · rw [set_other _ n4, set_other _ n3, e2 _ n2, h.head]; simp only [allocH, hlen]
  · rw [set_other _ n6, set_other _ n5, e1]; rfl
  · rw [set_other _ n1, heap_set (l := H.sizes.map intV) (by rw [e2 _ (Ne.symm n5)]; exact h.size) k _, map_set_int]; rfl
  · rw [heap_set (l := H.shapes.map intV) (by rw [set_other _ (Ne.symm n1), e2 _ (Ne.symm n6)]; exact h.shape) k _, map_set_int]; rfl
  · simp only [allocH, hlen, List.length_set]; exact h.lsz
  · simp only [allocH, hlen, List.length_set]; exact h.lsh
  · simp only [allocH, hlen]; exact hle
  · intro s hs
    simp only [allocH] at hs
    rcases List.mem_or_eq_of_mem_set hs with g | g
    · exact h.ok s g
    · subst g; omega
  · intro j s hj
    simp only [allocH, hlen] at hj ⊢
    rw [List.getElem?_set] at hj
    split at hj
    · rename_i e
      subst e
      split at hj
      · have := Option.some.inj hj; omega
      · cases hj
    · exact h.fit j s hj
/-- What the heap is like while its two rows of numbers are written. -/
def RowsG (hp gc gs gh N : Nat) (u : World) : Prop := u.heap[hp]? = some (.cells #[.slice (some ⟨gc, 0, none⟩) N N, .slice (some ⟨gs, 0, none⟩) N N, .slice (some ⟨gh, 0, none⟩) N N] 77 (0, 0)) ∧ (∃ l : List Value, u.heap[gs]? = some (.cells l.toArray 3 (0, 0)) ∧ l.length = N) ∧ (∃ l : List Value, u.heap[gh]? = some (.cells l.toArray 3 (0, 0)) ∧ l.length = N)
theorem RowsG.set {hp gc gs gh N : Nat} {u : World} (h : RowsG hp gc gs gh N u) (n1 : gs ≠ gh) (n3 : hp ≠ gs) (n4 : hp ≠ gh) {g k : Nat} (hg : g = gs ∨ g = gh) (v : Value) : RowsG hp gc gs gh N (u.setCell ⟨g, k, none⟩ v) := by
  obtain ⟨h0, ⟨l1, h1, e1⟩, l2, h2, e2⟩ := h
  rcases hg with rfl | rfl
  · exact ⟨by rw [set_other _ n3]; exact h0, ⟨_, heap_set h1 k v, by rw [List.length_set]; exact e1⟩, l2, by rw [set_other _ (Ne.symm n1)]; exact h2, e2⟩
  · exact ⟨by rw [set_other _ n4]; exact h0, ⟨l1, by rw [set_other _ n1]; exact h1, e1⟩, _, heap_set h2 k v, by rw [List.length_set]; exact e2⟩
theorem RowsG.of {w : World} {hp gc gs gh : Nat} {H : HeapM} (h : HeapAt w hp gc gs gh H) : RowsG hp gc gs gh H.cells.length w :=
  ⟨h.head, ⟨_, h.size, by rw [List.length_map]; exact h.lsz⟩, _, h.shape, by rw [List.length_map]; exact h.lsh⟩
theorem RowsG.c1 {hp gc gs gh N : Nat} {u : World} (h : RowsG hp gc gs gh N u) : u.cell? ⟨hp, 1, none⟩ = some (.slice (some ⟨gs, 0, none⟩) N N) := by simp [World.cell?, h.1]
theorem RowsG.c2 {hp gc gs gh N : Nat} {u : World} (h : RowsG hp gc gs gh N u) : u.cell? ⟨hp, 2, none⟩ = some (.slice (some ⟨gh, 0, none⟩) N N) := by simp [World.cell?, h.1]
theorem RowsG.s {hp gc gs gh N : Nat} {u : World} (h : RowsG hp gc gs gh N u) {k : Nat} (hk : k < N) : BoxAt u gs k ∧ BoxAt u gh k := by
  obtain ⟨_, ⟨l1, h1, e1⟩, l2, h2, e2⟩ := h
  exact ⟨BoxAt.mk_ (v := l1[k]'(by omega)) (by simp [World.cell?, h1, e1, hk]) (by simp [World.frozen?, h1]), BoxAt.mk_ (v := l2[k]'(by omega)) (by simp [World.cell?, h2, e2, hk]) (by simp [World.frozen?, h2])⟩
set_option maxRecDepth 20000 in
set_option maxHeartbeats 1000000 in
theorem alloc_yes (w : World) (hp gc gs gh : Nat) (H : HeapM) (t n : Int) (k : Nat) (h : HeapAt w hp gc gs gh H) (t1 : 1 ≤ t) (t4 : t ≤ 4) (n0 : 0 ≤ n) (n3 : n ≤ 300) (hf : findM H.sizes (n + 1) = some k) (hk : (k : Int) + (n + 1) ≤ H.cells.length) : Calls Try.prog 25 #[.pointer (some ⟨hp, 0, none⟩), .int .i64 t, .int .i64 n] w fun e w' => e = .returned (.tuple #[.int .i64 (k : Int), .int .i64 0]) ∧ w' = (((w.setCells gc (k * 2) (List.replicate ((n.toNat + 1) * 2) (.int .i64 0))).drew.setCell ⟨gs, k, none⟩ (.int .i64 (n + 1))).setCell ⟨gh, k, none⟩ (.int .i64 t)) := by
  have HH := hid h; have HF := hid hf
  have hle := h.le
  have q0 := h.h0
  obtain ⟨m, rfl⟩ : ∃ m : Nat, n = m := ⟨n.toNat, by omega⟩
  have i1 : (0 : Int) ≤ (k : Int) := by omega
  have i2 : (k : Int) ≤ (k : Int) + (m : Int) + 1 := by omega
  have i3 : (k : Int) + (m : Int) + 1 ≤ (H.cells.length : Int) := by omega
  have e1 : ((k : Int) + (m : Int) + 1).toNat - k = m + 1 := by omega
  have e2 : wrap64 ((k : Int) + (m : Int)) = (k : Int) + (m : Int) := by unfold wrap64; omega
  have e3 : wrap64 ((k : Int) + (m : Int) + 1) = (k : Int) + (m : Int) + 1 := by unfold wrap64; omega
  have e4 : wrap64 ((m : Int) + 1) = (m : Int) + 1 := by unfold wrap64; omega
  have hcl : ∀ ty c, (Builtin.clear_ #[38] ty #[.slice (some ⟨gc, k * 2, none⟩) (m + 1) c]).run Try.prog w = .ok (.tuple #[]) (w.setCells gc (k * 2) (List.replicate ((m + 1) * 2) (.int .i64 0))) := fun ty c =>
    run_clear_cells w ty gc (k * 2) (m + 1) c (by omega) (fun j hj => by
      simp only [World.cell?, HH.out.cell]
      have : (cellsV H.cells)[k * 2 + j]? = some ((cellsV H.cells)[k * 2 + j]'(by rw [cellsV_len]; omega)) := List.getElem?_eq_getElem _
      simp [this]) (fun j => heap_fz HH.out.cell)
  clear h hf hle
  go_enter Try.func25, Try.ntmps25
  go_wp2_with (go_at_call 45; go_must (refine (find_any _ hp gc gs gh H (m + 1) HH.out).mono ?_); rintro e w' ⟨rfl, rfl⟩; rw [HF.out]; simp only [findE])
  have hW : RowsG hp gc gs gh H.cells.length (w.setCells gc (k * 2) (List.replicate ((m + 1) * 2) (.int .i64 0))) := by
    obtain ⟨n1, n2, n3, n4, n5, n6⟩ := HH.out.ne
    obtain ⟨g0, ⟨l1, g1, e1⟩, l2, g2, e2⟩ := RowsG.of HH.out
    exact ⟨by rw [setCells_other n2]; exact g0, ⟨l1, by rw [setCells_other (Ne.symm n5)]; exact g1, e1⟩, l2, by rw [setCells_other (Ne.symm n6)]; exact g2, e2⟩
  obtain ⟨W1, hW1⟩ : ∃ W1, w.setCells gc (k * 2) (List.replicate ((m + 1) * 2) (.int .i64 0)) = W1 := ⟨_, rfl⟩
  rw [hW1] at hW ⊢
  have HW1 := hid hW1
  have n1 := HH.out.ne.1
  have n3 := HH.out.ne.2.2.1
  have n4 := HH.out.ne.2.2.2.1
  have j1 : (k : Int) < (H.cells.length : Int) := by omega
  have j2 : k < H.cells.length := by omega
  obtain ⟨N, hN⟩ : ∃ N, H.cells.length = N := ⟨_, rfl⟩
  rw [hN] at hW j1 j2 ⊢
  clear hcl q0 i2 i3 e1 e2 e3 hW1 HH HF hN hk
  refine wp_region_two 14 16 gs k gh k ((.int .i64 ((m : Int) + 1))) ((.int .i64 t)) [[], [0], [1], [2], [], [], [5], [6], [7], [], [], [10], [], [3, 4], [11, 13], [8, 9], [12, 15]] (fun u => RowsG hp gc gs gh N u)
    [fun (y : Value) (u : World) => y = (.pointer (some ⟨hp, 0, none⟩) : Value),
     fun (y : Value) (u : World) => y = (.pointer (some ⟨hp, 0, none⟩) : Value),
     fun (y : Value) (u : World) => y = (.pointer (some ⟨hp, 1, none⟩) : Value),
     fun (y : Value) (u : World) => y = (.slice (some ⟨gs, 0, none⟩) N N : Value),
     fun (y : Value) (u : World) => y = (.int .i64 k : Value),
     fun (y : Value) (u : World) => y = (.pointer (some ⟨hp, 0, none⟩) : Value),
     fun (y : Value) (u : World) => y = (.pointer (some ⟨hp, 0, none⟩) : Value),
     fun (y : Value) (u : World) => y = (.pointer (some ⟨hp, 2, none⟩) : Value),
     fun (y : Value) (u : World) => y = (.slice (some ⟨gh, 0, none⟩) N N : Value),
     fun (y : Value) (u : World) => y = (.int .i64 k : Value),
     fun (y : Value) (u : World) => y = (.int .i64 m : Value),
     fun (y : Value) (u : World) => y = (.int .i64 ((m : Int) + 1) : Value),
     fun (y : Value) (u : World) => y = (.int .i64 t : Value),
     fun (y : Value) (u : World) => y = (.pointer (some ⟨gs, k, none⟩) : Value),
     fun (y : Value) (u : World) => True,
     fun (y : Value) (u : World) => y = (.pointer (some ⟨gh, k, none⟩) : Value),
     fun (y : Value) (u : World) => True]
    (by kernel_rfl) (by kernel_rfl) (by kernel_rfl) (by kernel_rfl) (by kernel_rfl) (fun h => n1 h.1) (hW) (fun u h => h.set n1 n3 n4 (.inl rfl) _) (fun u h => h.set n1 n3 n4 (.inr rfl) _) ⟨fun _ _ _ _ h => h, fun _ _ _ _ h => h, fun _ _ _ _ h => h, fun _ _ _ _ h => h, fun _ _ _ _ h => h, fun _ _ _ _ h => h, fun _ _ _ _ h => h, fun _ _ _ _ h => h, fun _ _ _ _ h => h, fun _ _ _ _ h => h, fun _ _ _ _ h => h, fun _ _ _ _ h => h, fun _ _ _ _ h => h, fun _ _ _ _ h => h, fun _ _ _ _ _ => trivial, fun _ _ _ _ h => h, fun _ _ _ _ _ => trivial, trivial⟩ ⟨?sc0, ?sc1, ?sc2, ?sc3, ?sc4, ?sc5, ?sc6, ?sc7, ?sc8, ?sc9, ?sc10, ?sc11, ?sc12, ?sc13, ?sc14, ?sc15, ?sc16, trivial⟩ ?hEc
  case sc0 =>
    intro x u hg hd K hK
    clear hd
    refine ⟨?_⟩
    simp only [putsFrom, Act.put, List.setIfInBounds_toArray, List.set_cons_zero, List.set_cons_succ, Nat.reduceAdd] at hK ⊢
    go_simp
    exact hK.out _ _ rfl rfl
  case sc1 =>
    intro x u hg hd K hK
    have d0 : (x 0) = .pointer (some ⟨hp, 0, none⟩) := And.left hd
    clear hd
    refine ⟨?_⟩
    simp only [putsFrom, Act.put, List.setIfInBounds_toArray, List.set_cons_zero, List.set_cons_succ, Nat.reduceAdd, d0] at hK ⊢
    go_simp
    exact hK.out _ _ rfl rfl
  case sc2 =>
    intro x u hg hd K hK
    have d1 : (x 1) = .pointer (some ⟨hp, 0, none⟩) := And.left hd
    clear hd
    refine ⟨?_⟩
    simp only [putsFrom, Act.put, List.setIfInBounds_toArray, List.set_cons_zero, List.set_cons_succ, Nat.reduceAdd, d1] at hK ⊢
    go_simp
    exact hK.out _ _ rfl rfl
  case sc3 =>
    intro x u hg hd K hK
    have d2 : (x 2) = .pointer (some ⟨hp, 1, none⟩) := And.left hd
    clear hd
    have q0 := hg.c1
    refine ⟨?_⟩
    simp only [putsFrom, Act.put, List.setIfInBounds_toArray, List.set_cons_zero, List.set_cons_succ, Nat.reduceAdd, d2] at hK ⊢
    go_simp
    exact hK.out _ _ rfl rfl
  case sc4 =>
    intro x u hg hd K hK
    clear hd
    refine ⟨?_⟩
    simp only [putsFrom, Act.put, List.setIfInBounds_toArray, List.set_cons_zero, List.set_cons_succ, Nat.reduceAdd] at hK ⊢
    go_simp
    exact hK.out _ _ rfl rfl
  case sc5 =>
    intro x u hg hd K hK
    clear hd
    refine ⟨?_⟩
    simp only [putsFrom, Act.put, List.setIfInBounds_toArray, List.set_cons_zero, List.set_cons_succ, Nat.reduceAdd] at hK ⊢
    go_simp
    exact hK.out _ _ rfl rfl
  case sc6 =>
    intro x u hg hd K hK
    have d5 : (x 5) = .pointer (some ⟨hp, 0, none⟩) := And.left hd
    clear hd
    refine ⟨?_⟩
    simp only [putsFrom, Act.put, List.setIfInBounds_toArray, List.set_cons_zero, List.set_cons_succ, Nat.reduceAdd, d5] at hK ⊢
    go_simp
    exact hK.out _ _ rfl rfl
  case sc7 =>
    intro x u hg hd K hK
    have d6 : (x 6) = .pointer (some ⟨hp, 0, none⟩) := And.left hd
    clear hd
    refine ⟨?_⟩
    simp only [putsFrom, Act.put, List.setIfInBounds_toArray, List.set_cons_zero, List.set_cons_succ, Nat.reduceAdd, d6] at hK ⊢
    go_simp
    exact hK.out _ _ rfl rfl
  case sc8 =>
    intro x u hg hd K hK
    have d7 : (x 7) = .pointer (some ⟨hp, 2, none⟩) := And.left hd
    clear hd
    have q0 := hg.c2
    refine ⟨?_⟩
    simp only [putsFrom, Act.put, List.setIfInBounds_toArray, List.set_cons_zero, List.set_cons_succ, Nat.reduceAdd, d7] at hK ⊢
    go_simp
    exact hK.out _ _ rfl rfl
  case sc9 =>
    intro x u hg hd K hK
    clear hd
    refine ⟨?_⟩
    simp only [putsFrom, Act.put, List.setIfInBounds_toArray, List.set_cons_zero, List.set_cons_succ, Nat.reduceAdd] at hK ⊢
    go_simp
    exact hK.out _ _ rfl rfl
  case sc10 =>
    intro x u hg hd K hK
    clear hd
    refine ⟨?_⟩
    simp only [putsFrom, Act.put, List.setIfInBounds_toArray, List.set_cons_zero, List.set_cons_succ, Nat.reduceAdd] at hK ⊢
    go_simp
    exact hK.out _ _ rfl rfl
  case sc11 =>
    intro x u hg hd K hK
    have d10 : (x 10) = .int .i64 m := And.left hd
    clear hd
    have e5 : IntKind.i64.wrap ((m : Int) + 1) = (m : Int) + 1 := by rw [IntKind.wrap_i64]; omega
    refine ⟨?_⟩
    simp only [putsFrom, Act.put, List.setIfInBounds_toArray, List.set_cons_zero, List.set_cons_succ, Nat.reduceAdd, d10] at hK ⊢
    go_simp
    exact hK.out _ _ rfl rfl
  case sc12 =>
    intro x u hg hd K hK
    clear hd
    refine ⟨?_⟩
    simp only [putsFrom, Act.put, List.setIfInBounds_toArray, List.set_cons_zero, List.set_cons_succ, Nat.reduceAdd] at hK ⊢
    go_simp
    exact hK.out _ _ rfl rfl
  case sc13 =>
    intro x u hg hd K hK
    have d3 : (x 3) = .slice (some ⟨gs, 0, none⟩) N N := And.left hd
    have d4 : (x 4) = .int .i64 k := And.left (And.right hd)
    clear hd
    refine ⟨?_⟩
    simp only [putsFrom, Act.put, List.setIfInBounds_toArray, List.set_cons_zero, List.set_cons_succ, Nat.reduceAdd, d3, d4] at hK ⊢
    go_simp
    exact hK.out _ _ rfl rfl
  case sc14 =>
    intro x u hg hd K hK
    have d11 : (x 11) = .int .i64 ((m : Int) + 1) := And.left hd
    have d13 : (x 13) = .pointer (some ⟨gs, k, none⟩) := And.left (And.right hd)
    clear hd
    obtain ⟨⟨q0, q1⟩, _⟩ := hg.s j2
    refine ⟨?_⟩
    simp only [putsFrom, Act.put, List.setIfInBounds_toArray, List.set_cons_zero, List.set_cons_succ, Nat.reduceAdd, d11, d13] at hK ⊢
    go_simp
    exact hK.out undef _ rfl trivial
  case sc15 =>
    intro x u hg hd K hK
    have d8 : (x 8) = .slice (some ⟨gh, 0, none⟩) N N := And.left hd
    have d9 : (x 9) = .int .i64 k := And.left (And.right hd)
    clear hd
    refine ⟨?_⟩
    simp only [putsFrom, Act.put, List.setIfInBounds_toArray, List.set_cons_zero, List.set_cons_succ, Nat.reduceAdd, d8, d9] at hK ⊢
    go_simp
    exact hK.out _ _ rfl rfl
  case sc16 =>
    intro x u hg hd K hK
    have d12 : (x 12) = .int .i64 t := And.left hd
    have d15 : (x 15) = .pointer (some ⟨gh, k, none⟩) := And.left (And.right hd)
    clear hd
    obtain ⟨_, ⟨q0, q1⟩⟩ := hg.s j2
    refine ⟨?_⟩
    simp only [putsFrom, Act.put, List.setIfInBounds_toArray, List.set_cons_zero, List.set_cons_succ, Nat.reduceAdd, d12, d15] at hK ⊢
    go_simp
    exact hK.out undef _ rfl trivial
  intro x he
  have d0 : (x 0) = .pointer (some ⟨hp, 0, none⟩) := And.left he
  have d1 : (x 1) = .pointer (some ⟨hp, 0, none⟩) := And.left (And.right he)
  have d2 : (x 2) = .pointer (some ⟨hp, 1, none⟩) := And.left (And.right (And.right he))
  have d3 : (x 3) = .slice (some ⟨gs, 0, none⟩) N N := And.left (And.right (And.right (And.right he)))
  have d4 : (x 4) = .int .i64 k := And.left (And.right (And.right (And.right (And.right he))))
  have d5 : (x 5) = .pointer (some ⟨hp, 0, none⟩) := And.left (And.right (And.right (And.right (And.right (And.right he)))))
  have d6 : (x 6) = .pointer (some ⟨hp, 0, none⟩) := And.left (And.right (And.right (And.right (And.right (And.right (And.right he))))))
  have d7 : (x 7) = .pointer (some ⟨hp, 2, none⟩) := And.left (And.right (And.right (And.right (And.right (And.right (And.right (And.right he)))))))
  have d8 : (x 8) = .slice (some ⟨gh, 0, none⟩) N N := And.left (And.right (And.right (And.right (And.right (And.right (And.right (And.right (And.right he))))))))
  have d9 : (x 9) = .int .i64 k := And.left (And.right (And.right (And.right (And.right (And.right (And.right (And.right (And.right (And.right he)))))))))
  have d10 : (x 10) = .int .i64 m := And.left (And.right (And.right (And.right (And.right (And.right (And.right (And.right (And.right (And.right (And.right he))))))))))
  have d11 : (x 11) = .int .i64 ((m : Int) + 1) := And.left (And.right (And.right (And.right (And.right (And.right (And.right (And.right (And.right (And.right (And.right (And.right he)))))))))))
  have d12 : (x 12) = .int .i64 t := And.left (And.right (And.right (And.right (And.right (And.right (And.right (And.right (And.right (And.right (And.right (And.right (And.right he))))))))))))
  have d13 : (x 13) = .pointer (some ⟨gs, k, none⟩) := And.left (And.right (And.right (And.right (And.right (And.right (And.right (And.right (And.right (And.right (And.right (And.right (And.right (And.right he)))))))))))))
  have d15 : (x 15) = .pointer (some ⟨gh, k, none⟩) := And.left (And.right (And.right (And.right (And.right (And.right (And.right (And.right (And.right (And.right (And.right (And.right (And.right (And.right (And.right (And.right he)))))))))))))))
  clear he
  refine ⟨?_⟩
  simp only [putsFrom, Act.put, List.setIfInBounds_toArray, List.set_cons_zero, List.set_cons_succ, Nat.reduceAdd, d0, d1, d2, d3, d4, d5, d6, d7, d8, d9, d10, d11, d12, d13, d15]
  clear d0 d1 d2 d3 d4 d5 d6 d7 d8 d9 d10 d11 d12 d13 d15
  go_wp2
  go_ret2
  exact ⟨rfl, by rw [← HW1.out]; rfl⟩
/-- Alloc, whole. -/
def allocC (H : HeapM) (t n : Int) : Int × Int := if t < 1 ∨ 4 < t then (0, 13) else if n < 0 ∨ 300 < n then (0, 14) else match findM H.sizes (n + 1) with | none => (0, 15) | some k => ((k : Int), 0)
def allocM (H : HeapM) (t n : Int) : HeapM := if (allocC H t n).2 = 0 then allocH H (allocC H t n).1.toNat n t else H
theorem find_eq (S : List Int) (n : Int) : ∀ f fr p, findGo S n f fr p = findGoS S n f fr p
  | 0, _, _ => rfl
  | f + 1, fr, p => by
    unfold findGo findGoS
    rw [find_eq S n f, find_eq S n f]; rfl
theorem alloc_any (w : World) (lo hi hp : Nat) (H : HeapM) (t n : Int) (h : HeapIs w lo hi hp H) (hs : SoundS H.sizes) (hl : lo ≤ w.heap.size) : Calls Try.prog 25 #[.pointer (some ⟨hp, 0, none⟩), .int .i64 t, .int .i64 n] w fun en w' => en = .returned (.tuple #[.int .i64 (allocC H t n).1, .int .i64 (allocC H t n).2]) ∧ HeapIs w' lo hi hp (allocM H t n) ∧ Hx lo hi w w' := by
  obtain ⟨gc, gs, gh, hat, h1, h2, h3, h4⟩ := h
  have key : ∀ c : Int × Int, allocC H t n = c → c.2 ≠ 0 → Calls Try.prog 25 #[.pointer (some ⟨hp, 0, none⟩), .int .i64 t, .int .i64 n] w (fun en w' => en = .returned (.tuple #[.int .i64 c.1, .int .i64 c.2]) ∧ w = w') → Calls Try.prog 25 #[.pointer (some ⟨hp, 0, none⟩), .int .i64 t, .int .i64 n] w fun en w' => en = .returned (.tuple #[.int .i64 (allocC H t n).1, .int .i64 (allocC H t n).2]) ∧ HeapIs w' lo hi hp (allocM H t n) ∧ Hx lo hi w w' := by
    intro c hc hne hcall
    refine hcall.mono ?_
    rintro en w' ⟨rfl, rfl⟩
    refine ⟨by rw [hc], ?_, Hx.refl _ _ _⟩
    unfold allocM; rw [hc, if_neg hne]
    exact ⟨gc, gs, gh, hat, h1, h2, h3, h4⟩
  by_cases ht : t < 1 ∨ 4 < t
  · exact key (0, 13) (by unfold allocC; rw [if_pos ht]) (by decide) (alloc_kind w hp t n ht)
  · by_cases hn : n < 0 ∨ 300 < n
    · exact key (0, 14) (by unfold allocC; rw [if_neg ht, if_pos hn]) (by decide) (alloc_range w hp t n (by omega) (by omega) hn)
    · cases hf : findM H.sizes (n + 1) with
      | none => exact key (0, 15) (by unfold allocC; rw [if_neg ht, if_neg hn, hf]) (by decide) (alloc_full w hp gc gs gh H t n hat (by omega) (by omega) (by omega) (by omega) hf)
      | some k =>
        have e : allocC H t n = ((k : Int), 0) := by unfold allocC; rw [if_neg ht, if_neg hn, hf]
        have hg := (find_some (n := n + 1) (k := k) hs (by omega) (by unfold findM at hf; rw [find_eq] at hf; exact hf)).1
        have hk : (k : Int) + (n + 1) ≤ H.cells.length := by have := hg.2.2; rw [hat.lsz] at this; exact this
        refine (alloc_yes w hp gc gs gh H t n k hat (by omega) (by omega) (by omega) (by omega) hf hk).mono ?_
        rintro en w' ⟨rfl, hw'⟩
        refine ⟨by rw [e], ?_, ?_⟩
        · unfold allocM; rw [e, if_pos rfl]
          exact ⟨gc, gs, gh, hat.alloc_ (by omega) hk hw', h1, h2, h3, h4⟩
        · rw [hw']
          have a := Hx.setCells h1.1 h1.2 (List.replicate ((n.toNat + 1) * 2) (.int .i64 0)) (k * 2) w w (Hx.refl lo hi w)
          have b : Hx lo hi w (w.setCells gc (k * 2) (List.replicate ((n.toNat + 1) * 2) (.int .i64 0))).drew := ⟨a.os, a.tape, a.output, a.size, a.low, a.high⟩
          exact (b.setCell h2.1 h2.2 _).setCell h3.1 h3.2 _
end Go.Proofs.Ytffjfkmnlfndkaa
