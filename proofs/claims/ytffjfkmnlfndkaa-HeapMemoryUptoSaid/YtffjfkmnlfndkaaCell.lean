/-
  Struct types of the program: what they read as, arguments of them opened (written by structs.py). No condition.
-/
import Derived.Test.YtffjfkmnlfndkaaInts
import Derived.Test.YtffjfkmnlfndkaaOwnL
import Derived.Lib.SmallJoins
namespace Go.Proofs.Ytffjfkmnlfndkaa
open Go.RowKit Go.ChangeShapes Go.WideShapes Go.Deep Go.Joins
set_option linter.unusedVariables false

/-! ### api.Cell -/
structure CellM where
  tag : Int
  n : Int
/-- The cells of one. -/
def CeCell (w : World) (cs : List Value) (m : CellM) : Prop := cs = [.int .i64 m.tag, .int .i64 m.n] ∧ okI m.tag ∧ okI m.n
theorem CeCell.kp : ElKp CeCell := fun _ _ _ _ hk ⟨h, h0, h1⟩ => ⟨h, h0, h1⟩
/-- As a value. -/
def RdCell (w : World) (v : Value) (m : CellM) : Prop := v = .agg #[.int .i64 m.tag, .int .i64 m.n] ∧ okI m.tag ∧ okI m.n
theorem RdCell.kp {w w' : World} {v : Value} {m : CellM} (h : RdCell w v m) (hk : Kp w w') : RdCell w' v m := by
  obtain ⟨h, h0, h1⟩ := h
  exact ⟨h, h0, h1⟩
/-- The element i: its cells. -/
theorem at_cell {w : World} {A : Option Addr} {n c : Nat} {l : List CellM} {i : Nat} {m : CellM} (h : RdL CeCell 2 w (.slice A n c) l) (hi : l[i]? = some m) : ∃ b off, A = some ⟨b, off, none⟩ ∧ b < w.heap.size ∧ w.cell? ⟨b, off + i * 2, none⟩ = some (.int .i64 m.tag) ∧ w.cell? ⟨b, off + i * 2 + 1, none⟩ = some (.int .i64 m.n) ∧ okI m.tag ∧ okI m.n := by
  obtain ⟨b, off, cs, g1, g2, g3, _, g4⟩ := h.at_ hi
  obtain ⟨rfl, h0, h1⟩ := g3
  exact ⟨b, off, g1, g2, g4 0 (by omega), g4 1 (by omega), h0, h1⟩
/-- A pointer to one. -/
def PtCell (w : World) (v : Value) (m : CellM) : Prop := ∃ b off, v = .pointer (some ⟨b, off, none⟩) ∧ b < w.heap.size ∧ w.cell? ⟨b, off, none⟩ = some (.int .i64 m.tag) ∧ w.cell? ⟨b, off + 1, none⟩ = some (.int .i64 m.n) ∧ okI m.tag ∧ okI m.n
theorem PtCell.kp {w w' : World} {v : Value} {m : CellM} (h : PtCell w v m) (hk : Kp w w') : PtCell w' v m := by
  obtain ⟨b, off, e, hb, g0, g1, h0, h1⟩ := h
  exact ⟨b, off, e, Nat.lt_of_lt_of_le hb hk.le, cell_kp hk hb g0, cell_kp hk hb g1, h0, h1⟩
theorem PtCell.rd {w : World} {b off : Nat} {m : CellM} (h : PtCell w (.pointer (some ⟨b, off, none⟩)) m) : ∃ _u : Unit, RdCell w (.agg #[.int .i64 m.tag, .int .i64 m.n]) m ∧ w.cell? ⟨b, off, none⟩ = some (.int .i64 m.tag) ∧ w.cell? ⟨b, off + 1, none⟩ = some (.int .i64 m.n) := by
  obtain ⟨b', off', e, hb, g0, g1, h0, h1⟩ := h
  cases e
  exact ⟨(), ⟨rfl, h0, h1⟩, g0, g1⟩
theorem pt_cell {w : World} {v : Value} {l : List CellM} {i : Nat} {m : CellM} (h : RdL CeCell 2 w v l) (hi : l[i]? = some m) : ∃ b off c, v = .slice (some ⟨b, off, none⟩) l.length c ∧ l.length ≤ c ∧ PtCell w (.pointer (some ⟨b, off + i * 2, none⟩)) m := by
  obtain ⟨A, c, rfl, hc⟩ := h.form
  obtain ⟨b, off, rfl, hb, g0, g1, h0, h1⟩ := at_cell h hi
  exact ⟨b, off, c, rfl, hc, b, off + i * 2, rfl, hb, g0, g1, h0, h1⟩
@[go_sem] theorem field_cell0 (x0 x1 : Value) (w : World) : Sem.run Try.prog (Instr.field 24 (.agg #[x0, x1]) 0) w = .ok (x0) w := by kernel_rfl
@[go_sem] theorem field_cell1 (x0 x1 : Value) (w : World) : Sem.run Try.prog (Instr.field 24 (.agg #[x0, x1]) 1) w = .ok (x1) w := by kernel_rfl
section
variable {H : Type} {enc : TypeId × Value → H} {W : World} {base : Nat} {v : Value} {d : DataW H} {p : List MemPlace}
set_option maxRecDepth 100000 in
theorem open_cell_cells {fuel : Nat} {cs : List Value} (hf : DataW.trod enc Try.prog W 0 (fun _ => true) true fuel 24 cs = some (d, p)) (hz : ∀ n ∈ DataW.weights Try.prog 24 d, n ≤ reachBytes) : ∃ m, CeCell W cs m := by
  obtain ⟨xs, n, _, hx, hlen, hxl, hi⟩ := DataW.trod_struct Try.underlying24 hf
  simp only [Prod.mk.injEq] at hx
  obtain ⟨rfl, rfl⟩ := hx
  have hcl : cs.length = 2 := hlen.trans (by kernel_rfl)
  match cs, hcl with
  | [c0, c1], _ =>
    match xs, hxl with
    | [y0, y1], _ =>
      have hw := fun j f d hf hd => weights_struct (H := H) (ds := [y0.1, y1.1]) Try.underlying24 hz j f d hf hd
      have e0 : Try.prog.cellsOf 3 = 1 := by kernel_rfl
      have q0 : DataW.trod enc Try.prog W 0 (fun _ => true) true n 3 (([c0, c1].drop 0).take (Try.prog.cellsOf 3)) = some y0 := hi 0 _ rfl
      rw [e0] at q0
      have q1 : DataW.trod enc Try.prog W 0 (fun _ => true) true n 3 (([c0, c1].drop 1).take (Try.prog.cellsOf 3)) = some y1 := hi 1 _ rfl
      rw [e0] at q1
      obtain ⟨k0, g0, xx0, w0⟩ := DataW.trod_int Try.underlying3 q0
      simp at g0
      subst g0
      obtain ⟨k1, g1, xx1, w1⟩ := DataW.trod_int Try.underlying3 q1
      simp at g1
      subst g1
      exact ⟨⟨k0, k1⟩, rfl, Go.bounds_i64 w0, Go.bounds_i64 w1⟩
set_option maxRecDepth 100000 in
theorem open_cell (hval : Value.okWide Try.prog W .any base 24 v) (h : DataW.Trod enc Try.prog W 0 (fun _ => true) true 24 v d p) (hz : ∀ n ∈ DataW.weights Try.prog 24 d, n ≤ reachBytes) : ∃ m, RdCell W v m := by
  obtain ⟨cs, rfl, hsz⟩ := okWide_struct Try.underlying24 hval
  obtain ⟨fuel, hf⟩ := h
  obtain ⟨m, h1, h2⟩ := open_cell_cells hf hz
  refine ⟨m, ?_, h2⟩
  have : cs.toList = [.int .i64 m.tag, .int .i64 m.n] := by simpa [Value.cells] using h1
  congr 1
  apply Array.toList_inj.1; rw [this]
/-- A slice of them that came in. -/
def RdCellsB (w : World) (v : Value) (l : List CellM) : Prop := RdL CeCell 2 w v l ∧ l.length * 16 ≤ 140737488351232
set_option maxRecDepth 100000 in
theorem open_cells (hval : Value.okWide Try.prog W .any base 38 v) (h : DataW.Trod enc Try.prog W 0 (fun _ => true) true 38 v d p) (hz : ∀ n ∈ DataW.weights Try.prog 38 d, n ≤ reachBytes) : ∃ l, RdCellsB W v l := by
  obtain ⟨a0, len, cap, rfl⟩ := okWide_slice Try.underlying38 hval
  obtain ⟨fuel, hf⟩ := h
  obtain ⟨v', l, h1, h2, h3⟩ := open_list (el := CeCell) (sz := 2) (by_ := 16) Try.underlying38 (by kernel_rfl) (by omega) (by kernel_rfl) (fun fuel cs d p h hz => open_cell_cells h hz) hf hz
  have : Value.slice a0 len cap = v' := (List.cons.inj h1).1
  subst this
  exact ⟨l, h2, by unfold reachBytes at h3; omega⟩
end
theorem elCell : El Try.prog 38 24 (.agg #[.int .i64 0, .int .i64 0]) 2 16 := El.mk_ Try.underlying38 (by kernel_rfl) rfl (by omega)

end Go.Proofs.Ytffjfkmnlfndkaa
