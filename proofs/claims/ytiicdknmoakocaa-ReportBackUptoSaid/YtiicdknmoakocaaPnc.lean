/-
  Struct types of the program: what they read as, arguments of them opened (written by structs.py). No condition.
-/
import Derived.Test.YtiicdknmoakocaaValM
import Derived.Test.YtiicdknmoakocaaOwnL
import Derived.Lib.SmallJoins
namespace Go.Proofs.Ytiicdknmoakocaa
open Go.RowKit Go.ChangeShapes Go.WideShapes Go.Deep Go.Joins
set_option linter.unusedVariables false

/-! ### api.Panic -/
structure PanicM where
  serial : Int
  val : ValM
  rcd : Bool
  abt : Bool
/-- The cells of one. -/
def CePanic (w : World) (cs : List Value) (m : PanicM) : Prop := ∃ lvval, cs = [.int .i64 m.serial, .int .i64 m.val.k, .int .i64 m.val.n, .string m.val.s, lvval, .bool m.rcd, .bool m.abt] ∧ okI m.serial ∧ RdInts w lvval m.val.l ∧ okI m.val.k ∧ okI m.val.n ∧ m.val.s.size ≤ 140737488351232 ∧ m.val.l.length * 8 ≤ 140737488351232
theorem CePanic.kp : ElKp CePanic := fun _ _ _ _ hk ⟨lvval, h, h0, h1, h2, h3, h4, h5⟩ => ⟨lvval, h, h0, h1.kp hk, h2, h3, h4, h5⟩
/-- As a value. -/
def RdPanic (w : World) (v : Value) (m : PanicM) : Prop := ∃ lvval, v = .agg #[.int .i64 m.serial, .int .i64 m.val.k, .int .i64 m.val.n, .string m.val.s, lvval, .bool m.rcd, .bool m.abt] ∧ okI m.serial ∧ RdInts w lvval m.val.l ∧ okI m.val.k ∧ okI m.val.n ∧ m.val.s.size ≤ 140737488351232 ∧ m.val.l.length * 8 ≤ 140737488351232
theorem RdPanic.kp {w w' : World} {v : Value} {m : PanicM} (h : RdPanic w v m) (hk : Kp w w') : RdPanic w' v m := by
  obtain ⟨lvval, h, h0, h1, h2, h3, h4, h5⟩ := h
  exact ⟨lvval, h, h0, h1.kp hk, h2, h3, h4, h5⟩
/-- The element i: its cells. -/
theorem at_panic {w : World} {A : Option Addr} {n c : Nat} {l : List PanicM} {i : Nat} {m : PanicM} (h : RdL CePanic 7 w (.slice A n c) l) (hi : l[i]? = some m) : ∃ b off, A = some ⟨b, off, none⟩ ∧ b < w.heap.size ∧ ∃ lvval, w.cell? ⟨b, off + i * 7, none⟩ = some (.int .i64 m.serial) ∧ w.cell? ⟨b, off + i * 7 + 1, none⟩ = some (.int .i64 m.val.k) ∧ w.cell? ⟨b, off + i * 7 + 2, none⟩ = some (.int .i64 m.val.n) ∧ w.cell? ⟨b, off + i * 7 + 3, none⟩ = some (.string m.val.s) ∧ w.cell? ⟨b, off + i * 7 + 4, none⟩ = some (lvval) ∧ w.cell? ⟨b, off + i * 7 + 5, none⟩ = some (.bool m.rcd) ∧ w.cell? ⟨b, off + i * 7 + 6, none⟩ = some (.bool m.abt) ∧ okI m.serial ∧ RdInts w lvval m.val.l ∧ okI m.val.k ∧ okI m.val.n ∧ m.val.s.size ≤ 140737488351232 ∧ m.val.l.length * 8 ≤ 140737488351232 := by
  obtain ⟨b, off, cs, g1, g2, g3, _, g4⟩ := h.at_ hi
  obtain ⟨lvval, rfl, h0, h1, h2, h3, h4, h5⟩ := g3
  exact ⟨b, off, g1, g2, lvval, g4 0 (by omega), g4 1 (by omega), g4 2 (by omega), g4 3 (by omega), g4 4 (by omega), g4 5 (by omega), g4 6 (by omega), h0, h1, h2, h3, h4, h5⟩
/-- A pointer to one. -/
def PtPanic (w : World) (v : Value) (m : PanicM) : Prop := ∃ b off lvval, v = .pointer (some ⟨b, off, none⟩) ∧ b < w.heap.size ∧ w.cell? ⟨b, off, none⟩ = some (.int .i64 m.serial) ∧ w.cell? ⟨b, off + 1, none⟩ = some (.int .i64 m.val.k) ∧ w.cell? ⟨b, off + 2, none⟩ = some (.int .i64 m.val.n) ∧ w.cell? ⟨b, off + 3, none⟩ = some (.string m.val.s) ∧ w.cell? ⟨b, off + 4, none⟩ = some (lvval) ∧ w.cell? ⟨b, off + 5, none⟩ = some (.bool m.rcd) ∧ w.cell? ⟨b, off + 6, none⟩ = some (.bool m.abt) ∧ okI m.serial ∧ RdInts w lvval m.val.l ∧ okI m.val.k ∧ okI m.val.n ∧ m.val.s.size ≤ 140737488351232 ∧ m.val.l.length * 8 ≤ 140737488351232
theorem PtPanic.kp {w w' : World} {v : Value} {m : PanicM} (h : PtPanic w v m) (hk : Kp w w') : PtPanic w' v m := by
  obtain ⟨b, off, lvval, e, hb, g0, g1, g2, g3, g4, g5, g6, h0, h1, h2, h3, h4, h5⟩ := h
  exact ⟨b, off, lvval, e, Nat.lt_of_lt_of_le hb hk.le, cell_kp hk hb g0, cell_kp hk hb g1, cell_kp hk hb g2, cell_kp hk hb g3, cell_kp hk hb g4, cell_kp hk hb g5, cell_kp hk hb g6, h0, h1.kp hk, h2, h3, h4, h5⟩
theorem PtPanic.rd {w : World} {b off : Nat} {m : PanicM} (h : PtPanic w (.pointer (some ⟨b, off, none⟩)) m) : ∃ lvval, RdPanic w (.agg #[.int .i64 m.serial, .int .i64 m.val.k, .int .i64 m.val.n, .string m.val.s, lvval, .bool m.rcd, .bool m.abt]) m ∧ w.cell? ⟨b, off, none⟩ = some (.int .i64 m.serial) ∧ w.cell? ⟨b, off + 1, none⟩ = some (.int .i64 m.val.k) ∧ w.cell? ⟨b, off + 2, none⟩ = some (.int .i64 m.val.n) ∧ w.cell? ⟨b, off + 3, none⟩ = some (.string m.val.s) ∧ w.cell? ⟨b, off + 4, none⟩ = some (lvval) ∧ w.cell? ⟨b, off + 5, none⟩ = some (.bool m.rcd) ∧ w.cell? ⟨b, off + 6, none⟩ = some (.bool m.abt) := by
  obtain ⟨b', off', lvval, e, hb, g0, g1, g2, g3, g4, g5, g6, h0, h1, h2, h3, h4, h5⟩ := h
  cases e
  exact ⟨lvval, ⟨lvval, rfl, h0, h1, h2, h3, h4, h5⟩, g0, g1, g2, g3, g4, g5, g6⟩
theorem pt_panic {w : World} {v : Value} {l : List PanicM} {i : Nat} {m : PanicM} (h : RdL CePanic 7 w v l) (hi : l[i]? = some m) : ∃ b off c, v = .slice (some ⟨b, off, none⟩) l.length c ∧ l.length ≤ c ∧ PtPanic w (.pointer (some ⟨b, off + i * 7, none⟩)) m := by
  obtain ⟨A, c, rfl, hc⟩ := h.form
  obtain ⟨b, off, rfl, hb, lvval, g0, g1, g2, g3, g4, g5, g6, h0, h1, h2, h3, h4, h5⟩ := at_panic h hi
  exact ⟨b, off, c, rfl, hc, b, off + i * 7, lvval, rfl, hb, g0, g1, g2, g3, g4, g5, g6, h0, h1, h2, h3, h4, h5⟩
@[go_sem] theorem field_panic0 (x0 x1 x2 x3 x4 x5 x6 : Value) (w : World) : Sem.run Try.prog (Instr.field 46 (.agg #[x0, x1, x2, x3, x4, x5, x6]) 0) w = .ok (x0) w := by kernel_rfl
@[go_sem] theorem field_panic1 (x0 x1 x2 x3 x4 x5 x6 : Value) (w : World) : Sem.run Try.prog (Instr.field 46 (.agg #[x0, x1, x2, x3, x4, x5, x6]) 1) w = .ok (.agg #[x1, x2, x3, x4]) w := by kernel_rfl
@[go_sem] theorem field_panic2 (x0 x1 x2 x3 x4 x5 x6 : Value) (w : World) : Sem.run Try.prog (Instr.field 46 (.agg #[x0, x1, x2, x3, x4, x5, x6]) 2) w = .ok (x5) w := by kernel_rfl
@[go_sem] theorem field_panic3 (x0 x1 x2 x3 x4 x5 x6 : Value) (w : World) : Sem.run Try.prog (Instr.field 46 (.agg #[x0, x1, x2, x3, x4, x5, x6]) 3) w = .ok (x6) w := by kernel_rfl
section
variable {H : Type} {enc : TypeId × Value → H} {W : World} {base : Nat} {v : Value} {d : DataW H} {p : List MemPlace}
set_option maxRecDepth 100000 in
theorem open_panic_cells {fuel : Nat} {cs : List Value} (hf : DataW.trod enc Try.prog W 0 (fun _ => true) true fuel 46 cs = some (d, p)) (hz : ∀ n ∈ DataW.weights Try.prog 46 d, n ≤ reachBytes) : ∃ m, CePanic W cs m := by
  obtain ⟨xs, n, _, hx, hlen, hxl, hi⟩ := DataW.trod_struct Try.underlying46 hf
  simp only [Prod.mk.injEq] at hx
  obtain ⟨rfl, rfl⟩ := hx
  have hcl : cs.length = 7 := hlen.trans (by kernel_rfl)
  match cs, hcl with
  | [c0, c1, c2, c3, c4, c5, c6], _ =>
    match xs, hxl with
    | [y0, y1, y2, y3], _ =>
      have hw := fun j f d hf hd => weights_struct (H := H) (ds := [y0.1, y1.1, y2.1, y3.1]) Try.underlying46 hz j f d hf hd
      have e0 : Try.prog.cellsOf 3 = 1 := by kernel_rfl
      have e1 : Try.prog.cellsOf 25 = 4 := by kernel_rfl
      have e2 : Try.prog.cellsOf 4 = 1 := by kernel_rfl
      have q0 : DataW.trod enc Try.prog W 0 (fun _ => true) true n 3 (([c0, c1, c2, c3, c4, c5, c6].drop 0).take (Try.prog.cellsOf 3)) = some y0 := hi 0 _ rfl
      rw [e0] at q0
      have q1 : DataW.trod enc Try.prog W 0 (fun _ => true) true n 25 (([c0, c1, c2, c3, c4, c5, c6].drop 1).take (Try.prog.cellsOf 25)) = some y1 := hi 1 _ rfl
      rw [e1] at q1
      have z1 := hw 1 _ y1.1 rfl rfl
      have q2 : DataW.trod enc Try.prog W 0 (fun _ => true) true n 4 (([c0, c1, c2, c3, c4, c5, c6].drop 5).take (Try.prog.cellsOf 4)) = some y2 := hi 2 _ rfl
      rw [e2] at q2
      have q3 : DataW.trod enc Try.prog W 0 (fun _ => true) true n 4 (([c0, c1, c2, c3, c4, c5, c6].drop 6).take (Try.prog.cellsOf 4)) = some y3 := hi 3 _ rfl
      rw [e2] at q3
      obtain ⟨k0, g0, xx0, w0⟩ := DataW.trod_int Try.underlying3 q0
      simp at g0
      subst g0
      obtain ⟨k1, lvnq1, g1, hn1_0, hn1_1, hn1_2, hn1_3, hn1_4⟩ := open_value_cells (d := y1.1) (p := y1.2) q1 z1
      simp at g1
      obtain ⟨rfl, rfl, rfl, rfl⟩ := g1
      obtain ⟨k2, g2, xx2⟩ := DataW.trod_bool Try.underlying4 q2
      simp at g2
      subst g2
      obtain ⟨k3, g3, xx3⟩ := DataW.trod_bool Try.underlying4 q3
      simp at g3
      subst g3
      exact ⟨⟨k0, k1, k2, k3⟩, _, rfl, Go.bounds_i64 w0, hn1_0, hn1_1, hn1_2, hn1_3, hn1_4⟩
set_option maxRecDepth 100000 in
theorem open_panic (hval : Value.okWide Try.prog W .any base 46 v) (h : DataW.Trod enc Try.prog W 0 (fun _ => true) true 46 v d p) (hz : ∀ n ∈ DataW.weights Try.prog 46 d, n ≤ reachBytes) : ∃ m, RdPanic W v m := by
  obtain ⟨cs, rfl, hsz⟩ := okWide_struct Try.underlying46 hval
  obtain ⟨fuel, hf⟩ := h
  obtain ⟨m, u0, h1, h2⟩ := open_panic_cells hf hz
  refine ⟨m, u0, ?_, h2⟩
  have : cs.toList = [.int .i64 m.serial, .int .i64 m.val.k, .int .i64 m.val.n, .string m.val.s, u0, .bool m.rcd, .bool m.abt] := by simpa [Value.cells] using h1
  congr 1
  apply Array.toList_inj.1; rw [this]
/-- A slice of them that came in. -/
def RdPanicsB (w : World) (v : Value) (l : List PanicM) : Prop := RdL CePanic 7 w v l ∧ l.length * 72 ≤ 140737488351232
set_option maxRecDepth 100000 in
theorem open_panics (hval : Value.okWide Try.prog W .any base 34 v) (h : DataW.Trod enc Try.prog W 0 (fun _ => true) true 34 v d p) (hz : ∀ n ∈ DataW.weights Try.prog 34 d, n ≤ reachBytes) : ∃ l, RdPanicsB W v l := by
  obtain ⟨a0, len, cap, rfl⟩ := okWide_slice Try.underlying34 hval
  obtain ⟨fuel, hf⟩ := h
  obtain ⟨v', l, h1, h2, h3⟩ := open_list (el := CePanic) (sz := 7) (by_ := 72) Try.underlying34 (by kernel_rfl) (by omega) (by kernel_rfl) (fun fuel cs d p h hz => open_panic_cells h hz) hf hz
  have : Value.slice a0 len cap = v' := (List.cons.inj h1).1
  subst this
  exact ⟨l, h2, by unfold reachBytes at h3; omega⟩
end
theorem elPanic : El Try.prog 34 46 (.agg #[.int .i64 0, .int .i64 0, .int .i64 0, .string ⟨#[]⟩, .slice none 0 0, .bool false, .bool false]) 7 72 := El.mk_ Try.underlying34 (by kernel_rfl) rfl (by omega)

end Go.Proofs.Ytiicdknmoakocaa
