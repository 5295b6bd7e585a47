/-
  copy into a row of the call's own, for elements of more than one cell; rows under steps that turn one block. No condition.
-/
import Derived.Test.YtffjfkmnlfndkaaHeapF
import Derived.Laws.CopyRow
import Derived.Laws.IdiomCopy
namespace Go.Proofs.Ytffjfkmnlfndkaa
open Go.RowKit
set_option linter.unusedVariables false

theorem run_copy_rows {P : Program} (w : World) (dT sT ty elem : TypeId) (s n g o dLen dCap : Nat) (a : Addr) (sLen sCap : Nat) (cur : Array Value) (t : TypeId) (cs : List Value)
    (hu : P.underlying dT = some (.slice elem)) (hs : (P.info? elem).map (·.size) = some s)
    (hg : w.heap[g]? = some (.cells cur t (0, 0))) (hn : Nat.min sLen dLen = n) (hl' : cs.length = n * s)
    (hsrc : ∀ j v, cs[j]? = some v → w.cell? (a.add j) = some v) (hfit : o + cs.length ≤ cur.size) (h1 : ∀ v ∈ cs, v.oneCell' = true) :
    (Builtin.copy_ #[dT, sT] ty #[.slice (some ⟨g, o, none⟩) dLen dCap, .slice (some a) sLen sCap]).run P w =
      .ok (goInt n) (w.setRow g (cur.toList.take o ++ cs ++ cur.toList.drop (o + cs.length)).toArray) := by
  have hl := run_loadCells_list (P := P) w a cs hsrc
  have hst := run_storeCells_at P g o t cs 0 cur w hg (by simpa using hfit) h1
  cases hq : P.info? elem with
  | none => simp [hq] at hs
  | some i =>
    have hi : i.size = s := by simpa [hq] using hs
    rw [hl'] at hl
    simp [Builtin.copy_, run_underlying hu, Builtin.lenOf, Builtin.firstCells, sizeOf, typeInfo, hq, hi, hn, hl, hst]
theorem run_copy_zero {P : Program} (w : World) (dT sT ty elem : TypeId) (s : Nat) (d a : Option Addr) (dLen dCap sLen sCap : Nat) (hu : P.underlying dT = some (.slice elem)) (hs : (P.info? elem).map (·.size) = some s) (hn : Nat.min sLen dLen = 0) :
    (Builtin.copy_ #[dT, sT] ty #[.slice d dLen dCap, .slice a sLen sCap]).run P w = .ok (goInt 0) w := by
  cases hq : P.info? elem with
  | none => simp [hq] at hs
  | some i =>
    have hl : ∀ (x : Addr), (loadCells x 0).run P w = .ok #[] w := fun x => by simpa using run_loadCells_list (P := P) w x [] (by simp)
    cases a with
    | none => cases d <;> simp [Builtin.copy_, run_underlying hu, Builtin.lenOf, Builtin.firstCells, sizeOf, typeInfo, hq, hn, storeCells]
    | some a => cases d <;> simp [Builtin.copy_, run_underlying hu, Builtin.lenOf, Builtin.firstCells, sizeOf, typeInfo, hq, hn, hl, storeCells]
/-! ### rows where one block turns -/
theorem OCells.keptBy {w w' : World} {base : Nat} {v : Value} {l : List CellM} {row : Option Nat} (h : OCells w base v l) (hg : w.grownBy w' row) (hne : ∀ g, v.ownBlock = some g → some g ≠ row) : OCells w' base v l := by
  obtain ⟨xs, ⟨h1, h2⟩, h3⟩ := h
  refine ⟨xs, ⟨h1, ?_⟩, Chunk.mono (w := w) (w' := w') (fun _ _ h => h) h3⟩
  rcases h2 with h2 | ⟨g, cap, cur, hv, hb, hgg, r⟩
  · exact .inl h2
  · exact .inr ⟨g, cap, cur, hv, hb, by rw [hg.block g (Array.getElem?_eq_some_iff.1 hgg).1 (hne g (by rw [hv]; rfl))]; exact hgg, r⟩
theorem Hx.grown {lo hi : Nat} {w w' : World} {row : Option Nat} (hg : w.grownBy w' row) (hl : lo ≤ w.heap.size) (h : ∀ g, row = some g → lo ≤ g ∧ g < hi) : Hx lo hi w w' :=
  ⟨hg.os, hg.tape, hg.output, hg.size, fun k hk => hg.block k (by omega) (fun e => by have := h k e.symm; omega), fun k hk hk2 => hg.block k hk2 (fun e => by have := h k e.symm; omega)⟩
/-- A store into a block of the middle, or into a new one. -/
theorem Hx.setCell' {lo hi g i : Nat} {w w' : World} (h : Hx lo hi w w') (h1 : lo ≤ g) (h2 : g < hi ∨ w.heap.size ≤ g) (v : Value) : Hx lo hi w (w'.setCell ⟨g, i, none⟩ v) :=
  ⟨h.os, h.tape, h.output, by have := h.size; simpa [World.setCell] using this, fun k hk => by rw [set_other _ (by omega)]; exact h.low k hk, fun k hk hk2 => by rw [set_other _ (by omega)]; exact h.high k hk hk2⟩
theorem HSt.below {w0 u u' : World} {lo hi hq N B : Nat} {H : HeapM} (h : HSt w0 lo hi hq N H u) (hb : Below B u u') (hB : hi ≤ B) : HSt w0 lo hi hq N H u' :=
  ⟨h.heap.below (Below.mono hb hB), h.sound, Below.trans h.low (Below.mono hb (Nat.le_trans h.heap.hxlo hB)), Nat.le_trans h.le hb.size⟩
theorem own_low {w w' : World} {base B size n : Nat} {e : TypeId} {v : Value} {xs : List Value} (h : w.ownsRow base e size v n xs) (hl : ∀ g, v.ownBlock = some g → g < B) (hb : Below B w w') : w'.ownsRow base e size v n xs := by
  obtain ⟨h1, h2⟩ := h
  refine ⟨h1, ?_⟩
  rcases h2 with h2 | ⟨g, cap, cur, hv, hbb, hgg, r⟩
  · exact .inl h2
  · exact .inr ⟨g, cap, cur, hv, hbb, by rw [hb.block g (hl g (by rw [hv]; rfl))]; exact hgg, r⟩
theorem row_type {w : World} {base size n g : Nat} {e : TypeId} {v : Value} {xs : List Value} (h : w.ownsRow base e size v n xs) (hg : v.ownBlock = some g) : ∃ cs fr, w.heap[g]? = some (.cells cs e fr) := by
  rcases h.2 with ⟨rfl, _⟩ | ⟨g', cap, cur, rfl, _, hgg, _⟩
  · cases hg
  · injection hg with hg; subst hg; exact ⟨_, _, hgg⟩
theorem row_get {w : World} {base size n j : Nat} {e : TypeId} {v : Value} {xs : List Value} (h : w.ownsRow base e size v n xs) (hj : j < n * size) : ∃ u g c, v = .slice (some ⟨g, 0, none⟩) n c ∧ g < w.heap.size ∧ base ≤ g ∧ w.cell? ⟨g, j, none⟩ = some u ∧ n ≤ c ∧ w.frozen? ⟨g, j, none⟩ = false ∧ ∃ cs fr, w.heap[g]? = some (.cells cs e fr) := by
  have h1 := h.1
  exact ⟨_, row_cell h (List.getElem?_eq_getElem (by omega))⟩
theorem cellsV_some (l : List CellM) {j : Nat} (h : j < l.length * 2) : ∃ z, (cellsV l).toArray[j]? = some z := by
  have : j < (cellsV l).length := by rw [cellsV_len]; exact h
  exact ⟨(cellsV l)[j], by simp [this]⟩
theorem cell_set_ne {w : World} {b o o' : Nat} {u : Value} (h : w.cell? ⟨b, o, none⟩ = some u) (hne : o ≠ o') (v : Value) : (w.setCell ⟨b, o', none⟩ v).cell? ⟨b, o, none⟩ = some u :=
  (World.cell?_setCell_other _ _ _ _ (fun e => hne (by injection e with _ e1; exact e1.symm))).trans h
def markA (R : List CellM) : Array Value := ((cellsV (R ++ [⟨0, 0⟩, ⟨0, 0⟩])).toArray.setIfInBounds (R.length * 2 + 1) (.int .i64 (-4711))).setIfInBounds ((R.length + 1) * 2 + 1) (.int .i64 (-4712))
theorem markA_at {R : List CellM} {i : Nat} {m : CellM} (h : R[i]? = some m) : (markA R)[i * 2]? = some (.int .i64 m.tag) ∧ (markA R)[i * 2 + 1]? = some (.int .i64 m.n) := by
  have hi : i < R.length := (List.getElem?_eq_some_iff.1 h).1
  obtain ⟨h1, h2⟩ := cellsV_get (R ++ [⟨0, 0⟩, ⟨0, 0⟩]) i m (by rw [List.getElem?_append_left hi]; exact h)
  unfold markA
  rw [Array.getElem?_setIfInBounds_ne (by omega), Array.getElem?_setIfInBounds_ne (by omega), Array.getElem?_setIfInBounds_ne (by omega), Array.getElem?_setIfInBounds_ne (by omega)]
  exact ⟨by simpa using h1, by simpa using h2⟩
theorem markA_end (R : List CellM) : (markA R)[R.length * 2 + 1]? = some (.int .i64 (-4711)) ∧ (markA R)[(R.length + 1) * 2 + 1]? = some (.int .i64 (-4712)) := by
  have hl : (cellsV (R ++ [⟨0, 0⟩, ⟨0, 0⟩])).length = (R.length + 2) * 2 := by rw [cellsV_len]; simp
  unfold markA
  constructor
  · rw [Array.getElem?_setIfInBounds_ne (by omega), Array.getElem?_setIfInBounds_self_of_lt (by simp [hl]; omega)]
  · rw [Array.getElem?_setIfInBounds_self_of_lt (by simp [hl]; omega)]
theorem mark_cell {w : World} {g : Nat} {R : List CellM} {fr : Nat × Nat} (h : w.heap[g]? = some (.cells (markA R) 24 fr)) {i j : Nat} {m : CellM} (hm : R[i]? = some m) (hj : j < 2) : w.cell? ⟨g, 0 + i * 2 + j, none⟩ = [Value.int .i64 m.tag, .int .i64 m.n][j]? := by
  obtain ⟨h1, h2⟩ := markA_at hm
  have : j = 0 ∨ j = 1 := by omega
  rcases this with rfl | rfl
  · rw [Nat.zero_add]; exact blk_cell h h1
  · rw [Nat.zero_add]; exact blk_cell h h2
theorem cell_inf : (Try.prog.info? 24).map (·.size) = some 2 := by kernel_rfl
/-- make and copy: a row of two cells more than what is copied. -/
theorem copy_cells (u : World) (A : Option Addr) (c : Nat) (R : List CellM) (h : RdCells u (.slice A R.length c) R) : ∃ W1, Sem.run Try.prog (Builtin.copy_ #[38, 38] 3 #[.slice (some ⟨u.heap.size, 0, none⟩) (R.length + 2) (R.length + 2), .slice A R.length c]) (u.alloc (.cells (madeCells #[.int .i64 0, .int .i64 0] ((R.length + 2) * 2)) 24)) = .ok (.int .i64 R.length) W1 ∧ W1.heap[u.heap.size]? = some (.cells (cellsV (R ++ [⟨0, 0⟩, ⟨0, 0⟩])).toArray 24 (0, 0)) ∧ Kp u W1 ∧ W1.heap.size = u.heap.size + 1 := by
  have hg : (u.alloc (.cells (madeCells #[.int .i64 0, .int .i64 0] ((R.length + 2) * 2)) 24)).heap[u.heap.size]? = some (.cells (cellsV (List.replicate (R.length + 2) ⟨0, 0⟩)).toArray 24 (0, 0)) := by rw [cells_made]; exact blk_new u _
  have hk : Kp u (u.alloc (.cells (madeCells #[.int .i64 0, .int .i64 0] ((R.length + 2) * 2)) 24)) := (Kp.refl u).alloc _
  have hsz : (u.alloc (.cells (madeCells #[.int .i64 0, .int .i64 0] ((R.length + 2) * 2)) 24)).heap.size = u.heap.size + 1 := by simp
  generalize (u.alloc (.cells (madeCells #[.int .i64 0, .int .i64 0] ((R.length + 2) * 2)) 24)) = W at hg hk hsz ⊢
  obtain ⟨news, hch, _, hsrc⟩ := RdL.src (RdL.kp CeC.kp h hk)
  rcases Nat.eq_zero_or_pos R.length with h0 | h0
  · have h1 : R = [] := List.eq_nil_of_length_eq_zero h0
    subst h1
    exact ⟨W, run_copy_zero W _ _ 3 24 2 _ _ _ _ _ _ Try.underlying38 cell_inf (by simp), hg, hk, hsz⟩
  · obtain ⟨ad, rfl, hc⟩ := hsrc h0
    have hl := hch.len
    have hR : news = cellsV R := by
      clear hc hsrc
      have key : ∀ (l : List CellM) (xs : List Value), Chunk CeC 2 W xs l → xs = cellsV l := by
        intro l
        induction l with
        | nil => intro xs h; exact h
        | cons m l ih =>
          rintro xs ⟨cs, r, rfl, _, hcs, hr⟩
          obtain rfl := hcs
          rw [ih r hr]; rfl
      exact key R news hch
    have := run_copy_rows (P := Try.prog) W 38 38 3 24 2 R.length u.heap.size 0 (R.length + 2) (R.length + 2) ad R.length c _ 24 news Try.underlying38 cell_inf hg (Nat.min_eq_left (by omega)) hl hc (by simp [cellsV_len]; omega) (Chunk.one_ (ceC_one W) hch)
    refine ⟨_, this, ?_, below_setRow hk (Nat.le_refl _) _, by simp [World.setRow, hsz]⟩
    have e : (cellsV (List.replicate (R.length + 2) ⟨0, 0⟩)).toArray.toList.take 0 ++ news ++ (cellsV (List.replicate (R.length + 2) ⟨0, 0⟩)).toArray.toList.drop (0 + news.length) = cellsV (R ++ [⟨0, 0⟩, ⟨0, 0⟩]) := by
      rw [hR, cellsV_app, List.take_zero, List.nil_append, Nat.zero_add, cellsV_len, List.toList_toArray, ← cellsV_drop, List.drop_replicate, show R.length + 2 - R.length = 2 by omega]
      rfl
    rw [setRow_heap W u.heap.size _ _ 24 _ hg, e]
theorem grown_trans {a b c : World} {row : Option Nat} (h : a.grownBy b row) (k : b.grownBy c row) : a.grownBy c row := h.trans k
end Go.Proofs.Ytffjfkmnlfndkaa
