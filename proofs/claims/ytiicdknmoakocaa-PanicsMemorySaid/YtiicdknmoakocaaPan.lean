/-
  Struct types of the program: what they read as, arguments of them opened (written by structs.py). No condition.
-/
import Derived.Test.YtiicdknmoakocaaValM
import Derived.Test.YtiicdknmoakocaaOwnL
import Derived.Lib.SmallJoins
namespace Go.Proofs.Ytiicdknmoakocaa
open Go.RowKit Go.ChangeShapes Go.WideShapes Go.Deep Go.Joins
set_option linter.unusedVariables false

/-! ### api.Event -/
structure EventM where
  kind : Int
  n : Int
  v : ValM
/-- The cells of one. -/
def CeEvent (w : World) (cs : List Value) (m : EventM) : Prop := ∃ lvv, cs = [.int .i64 m.kind, .int .i64 m.n, .int .i64 m.v.k, .int .i64 m.v.n, .string m.v.s, lvv] ∧ okI m.kind ∧ okI m.n ∧ RdInts w lvv m.v.l ∧ okI m.v.k ∧ okI m.v.n ∧ m.v.s.size ≤ 140737488351232 ∧ m.v.l.length * 8 ≤ 140737488351232
theorem CeEvent.kp : ElKp CeEvent := fun _ _ _ _ hk ⟨lvv, h, h0, h1, h2, h3, h4, h5, h6⟩ => ⟨lvv, h, h0, h1, h2.kp hk, h3, h4, h5, h6⟩
/-- As a value. -/
def RdEvent (w : World) (v : Value) (m : EventM) : Prop := ∃ lvv, v = .agg #[.int .i64 m.kind, .int .i64 m.n, .int .i64 m.v.k, .int .i64 m.v.n, .string m.v.s, lvv] ∧ okI m.kind ∧ okI m.n ∧ RdInts w lvv m.v.l ∧ okI m.v.k ∧ okI m.v.n ∧ m.v.s.size ≤ 140737488351232 ∧ m.v.l.length * 8 ≤ 140737488351232
theorem RdEvent.kp {w w' : World} {v : Value} {m : EventM} (h : RdEvent w v m) (hk : Kp w w') : RdEvent w' v m := by
  obtain ⟨lvv, h, h0, h1, h2, h3, h4, h5, h6⟩ := h
  exact ⟨lvv, h, h0, h1, h2.kp hk, h3, h4, h5, h6⟩
/-- The element i: its cells. -/
theorem at_event {w : World} {A : Option Addr} {n c : Nat} {l : List EventM} {i : Nat} {m : EventM} (h : RdL CeEvent 6 w (.slice A n c) l) (hi : l[i]? = some m) : ∃ b off, A = some ⟨b, off, none⟩ ∧ b < w.heap.size ∧ ∃ lvv, w.cell? ⟨b, off + i * 6, none⟩ = some (.int .i64 m.kind) ∧ w.cell? ⟨b, off + i * 6 + 1, none⟩ = some (.int .i64 m.n) ∧ w.cell? ⟨b, off + i * 6 + 2, none⟩ = some (.int .i64 m.v.k) ∧ w.cell? ⟨b, off + i * 6 + 3, none⟩ = some (.int .i64 m.v.n) ∧ w.cell? ⟨b, off + i * 6 + 4, none⟩ = some (.string m.v.s) ∧ w.cell? ⟨b, off + i * 6 + 5, none⟩ = some (lvv) ∧ okI m.kind ∧ okI m.n ∧ RdInts w lvv m.v.l ∧ okI m.v.k ∧ okI m.v.n ∧ m.v.s.size ≤ 140737488351232 ∧ m.v.l.length * 8 ≤ 140737488351232 := by
  obtain ⟨b, off, cs, g1, g2, g3, _, g4⟩ := h.at_ hi
  obtain ⟨lvv, rfl, h0, h1, h2, h3, h4, h5, h6⟩ := g3
  exact ⟨b, off, g1, g2, lvv, g4 0 (by omega), g4 1 (by omega), g4 2 (by omega), g4 3 (by omega), g4 4 (by omega), g4 5 (by omega), h0, h1, h2, h3, h4, h5, h6⟩
/-- A pointer to one. -/
def PtEvent (w : World) (v : Value) (m : EventM) : Prop := ∃ b off lvv, v = .pointer (some ⟨b, off, none⟩) ∧ b < w.heap.size ∧ w.cell? ⟨b, off, none⟩ = some (.int .i64 m.kind) ∧ w.cell? ⟨b, off + 1, none⟩ = some (.int .i64 m.n) ∧ w.cell? ⟨b, off + 2, none⟩ = some (.int .i64 m.v.k) ∧ w.cell? ⟨b, off + 3, none⟩ = some (.int .i64 m.v.n) ∧ w.cell? ⟨b, off + 4, none⟩ = some (.string m.v.s) ∧ w.cell? ⟨b, off + 5, none⟩ = some (lvv) ∧ okI m.kind ∧ okI m.n ∧ RdInts w lvv m.v.l ∧ okI m.v.k ∧ okI m.v.n ∧ m.v.s.size ≤ 140737488351232 ∧ m.v.l.length * 8 ≤ 140737488351232
theorem PtEvent.kp {w w' : World} {v : Value} {m : EventM} (h : PtEvent w v m) (hk : Kp w w') : PtEvent w' v m := by
  obtain ⟨b, off, lvv, e, hb, g0, g1, g2, g3, g4, g5, h0, h1, h2, h3, h4, h5, h6⟩ := h
  exact ⟨b, off, lvv, e, Nat.lt_of_lt_of_le hb hk.le, cell_kp hk hb g0, cell_kp hk hb g1, cell_kp hk hb g2, cell_kp hk hb g3, cell_kp hk hb g4, cell_kp hk hb g5, h0, h1, h2.kp hk, h3, h4, h5, h6⟩
theorem PtEvent.rd {w : World} {b off : Nat} {m : EventM} (h : PtEvent w (.pointer (some ⟨b, off, none⟩)) m) : ∃ lvv, RdEvent w (.agg #[.int .i64 m.kind, .int .i64 m.n, .int .i64 m.v.k, .int .i64 m.v.n, .string m.v.s, lvv]) m ∧ w.cell? ⟨b, off, none⟩ = some (.int .i64 m.kind) ∧ w.cell? ⟨b, off + 1, none⟩ = some (.int .i64 m.n) ∧ w.cell? ⟨b, off + 2, none⟩ = some (.int .i64 m.v.k) ∧ w.cell? ⟨b, off + 3, none⟩ = some (.int .i64 m.v.n) ∧ w.cell? ⟨b, off + 4, none⟩ = some (.string m.v.s) ∧ w.cell? ⟨b, off + 5, none⟩ = some (lvv) := by
  obtain ⟨b', off', lvv, e, hb, g0, g1, g2, g3, g4, g5, h0, h1, h2, h3, h4, h5, h6⟩ := h
  cases e
  exact ⟨lvv, ⟨lvv, rfl, h0, h1, h2, h3, h4, h5, h6⟩, g0, g1, g2, g3, g4, g5⟩
theorem pt_event {w : World} {v : Value} {l : List EventM} {i : Nat} {m : EventM} (h : RdL CeEvent 6 w v l) (hi : l[i]? = some m) : ∃ b off c, v = .slice (some ⟨b, off, none⟩) l.length c ∧ l.length ≤ c ∧ PtEvent w (.pointer (some ⟨b, off + i * 6, none⟩)) m := by
  obtain ⟨A, c, rfl, hc⟩ := h.form
  obtain ⟨b, off, rfl, hb, lvv, g0, g1, g2, g3, g4, g5, h0, h1, h2, h3, h4, h5, h6⟩ := at_event h hi
  exact ⟨b, off, c, rfl, hc, b, off + i * 6, lvv, rfl, hb, g0, g1, g2, g3, g4, g5, h0, h1, h2, h3, h4, h5, h6⟩
@[go_sem] theorem field_event0 (x0 x1 x2 x3 x4 x5 : Value) (w : World) : Sem.run Try.prog (Instr.field 27 (.agg #[x0, x1, x2, x3, x4, x5]) 0) w = .ok (x0) w := by kernel_rfl
@[go_sem] theorem field_event1 (x0 x1 x2 x3 x4 x5 : Value) (w : World) : Sem.run Try.prog (Instr.field 27 (.agg #[x0, x1, x2, x3, x4, x5]) 1) w = .ok (x1) w := by kernel_rfl
@[go_sem] theorem field_event2 (x0 x1 x2 x3 x4 x5 : Value) (w : World) : Sem.run Try.prog (Instr.field 27 (.agg #[x0, x1, x2, x3, x4, x5]) 2) w = .ok (.agg #[x2, x3, x4, x5]) w := by kernel_rfl
section
variable {H : Type} {enc : TypeId × Value → H} {W : World} {base : Nat} {v : Value} {d : DataW H} {p : List MemPlace}
set_option maxRecDepth 100000 in
theorem open_event_cells {fuel : Nat} {cs : List Value} (hf : DataW.trod enc Try.prog W 0 (fun _ => true) true fuel 27 cs = some (d, p)) (hz : ∀ n ∈ DataW.weights Try.prog 27 d, n ≤ reachBytes) : ∃ m, CeEvent W cs m := by
  obtain ⟨xs, n, _, hx, hlen, hxl, hi⟩ := DataW.trod_struct Try.underlying27 hf
  simp only [Prod.mk.injEq] at hx
  obtain ⟨rfl, rfl⟩ := hx
  have hcl : cs.length = 6 := hlen.trans (by kernel_rfl)
  match cs, hcl with
  | [c0, c1, c2, c3, c4, c5], _ =>
    match xs, hxl with
    | [y0, y1, y2], _ =>
      have hw := fun j f d hf hd => weights_struct (H := H) (ds := [y0.1, y1.1, y2.1]) Try.underlying27 hz j f d hf hd
      have e0 : Try.prog.cellsOf 3 = 1 := by kernel_rfl
      have e1 : Try.prog.cellsOf 25 = 4 := by kernel_rfl
      have q0 : DataW.trod enc Try.prog W 0 (fun _ => true) true n 3 (([c0, c1, c2, c3, c4, c5].drop 0).take (Try.prog.cellsOf 3)) = some y0 := hi 0 _ rfl
      rw [e0] at q0
      have q1 : DataW.trod enc Try.prog W 0 (fun _ => true) true n 3 (([c0, c1, c2, c3, c4, c5].drop 1).take (Try.prog.cellsOf 3)) = some y1 := hi 1 _ rfl
      rw [e0] at q1
      have q2 : DataW.trod enc Try.prog W 0 (fun _ => true) true n 25 (([c0, c1, c2, c3, c4, c5].drop 2).take (Try.prog.cellsOf 25)) = some y2 := hi 2 _ rfl
      rw [e1] at q2
      have z2 := hw 2 _ y2.1 rfl rfl
      obtain ⟨k0, g0, xx0, w0⟩ := DataW.trod_int Try.underlying3 q0
      simp at g0
      subst g0
      obtain ⟨k1, g1, xx1, w1⟩ := DataW.trod_int Try.underlying3 q1
      simp at g1
      subst g1
      obtain ⟨k2, lvnq2, g2, hn2_0, hn2_1, hn2_2, hn2_3, hn2_4⟩ := open_value_cells (d := y2.1) (p := y2.2) q2 z2
      simp at g2
      obtain ⟨rfl, rfl, rfl, rfl⟩ := g2
      exact ⟨⟨k0, k1, k2⟩, _, rfl, Go.bounds_i64 w0, Go.bounds_i64 w1, hn2_0, hn2_1, hn2_2, hn2_3, hn2_4⟩
set_option maxRecDepth 100000 in
theorem open_event (hval : Value.okWide Try.prog W .any base 27 v) (h : DataW.Trod enc Try.prog W 0 (fun _ => true) true 27 v d p) (hz : ∀ n ∈ DataW.weights Try.prog 27 d, n ≤ reachBytes) : ∃ m, RdEvent W v m := by
  obtain ⟨cs, rfl, hsz⟩ := okWide_struct Try.underlying27 hval
  obtain ⟨fuel, hf⟩ := h
  obtain ⟨m, u0, h1, h2⟩ := open_event_cells hf hz
  refine ⟨m, u0, ?_, h2⟩
  have : cs.toList = [.int .i64 m.kind, .int .i64 m.n, .int .i64 m.v.k, .int .i64 m.v.n, .string m.v.s, u0] := by simpa [Value.cells] using h1
  congr 1
  apply Array.toList_inj.1; rw [this]
/-- A slice of them that came in. -/
def RdEventsB (w : World) (v : Value) (l : List EventM) : Prop := RdL CeEvent 6 w v l ∧ l.length * 72 ≤ 140737488351232
set_option maxRecDepth 100000 in
theorem open_events (hval : Value.okWide Try.prog W .any base 22 v) (h : DataW.Trod enc Try.prog W 0 (fun _ => true) true 22 v d p) (hz : ∀ n ∈ DataW.weights Try.prog 22 d, n ≤ reachBytes) : ∃ l, RdEventsB W v l := by
  obtain ⟨a0, len, cap, rfl⟩ := okWide_slice Try.underlying22 hval
  obtain ⟨fuel, hf⟩ := h
  obtain ⟨v', l, h1, h2, h3⟩ := open_list (el := CeEvent) (sz := 6) (by_ := 72) Try.underlying22 (by kernel_rfl) (by omega) (by kernel_rfl) (fun fuel cs d p h hz => open_event_cells h hz) hf hz
  have : Value.slice a0 len cap = v' := (List.cons.inj h1).1
  subst this
  exact ⟨l, h2, by unfold reachBytes at h3; omega⟩
end
theorem elEvent : El Try.prog 22 27 (.agg #[.int .i64 0, .int .i64 0, .int .i64 0, .int .i64 0, .string ⟨#[]⟩, .slice none 0 0]) 6 72 := El.mk_ Try.underlying22 (by kernel_rfl) rfl (by omega)

/-! ### api.Panic -/
structure PanicM where
  serial : Int
  val : ValM
  rcd : Bool
  abt : Bool
/-- The cells of one. -/
def CePanic (w : World) (cs : List Value) (m : PanicM) : Prop := ∃ lvval, cs = [.int .i64 m.serial, .int .i64 m.val.k, .int .i64 m.val.n, .string m.val.s, lvval, .bool m.rcd, .bool m.abt] ∧ okI m.serial ∧ RdInts w lvval m.val.l ∧ okI m.val.k ∧ okI m.val.n ∧ m.val.s.size ≤ 140737488351232 ∧ m.val.l.length * 8 ≤ 140737488351232
theorem CePanic.kp : ElKp CePanic := fun _ _ _ _ hk ⟨lvval, h, h0, h1, h2, h3, h4, h5⟩ => ⟨lvval, h, h0, h1.kp hk, h2, h3, h4, h5⟩
/-- As a value. -/
def RdPanic (w : World) (v : Value) (m : PanicM) : Prop := ∃ lvval, v = .agg #[.int .i64 m.serial, .int .i64 m.val.k, .int .i64 m.val.n, .string m.val.s, lvval, .bool m.rcd, .bool m.abt] ∧ okI m.serial ∧ RdInts w lvval m.val.l ∧ okI m.val.k ∧ okI m.val.n ∧ m.val.s.size ≤ 140737488351232 ∧ m.val.l.length * 8 ≤ 140737488351232
theorem RdPanic.kp {w w' : World} {v : Value} {m : PanicM} (h : RdPanic w v m) (hk : Kp w w') : RdPanic w' v m := by
  obtain ⟨lvval, h, h0, h1, h2, h3, h4, h5⟩ := h
  exact ⟨lvval, h, h0, h1.kp hk, h2, h3, h4, h5⟩
/-- The element i: its cells. -/
theorem at_panic {w : World} {A : Option Addr} {n c : Nat} {l : List PanicM} {i : Nat} {m : PanicM} (h : RdL CePanic 7 w (.slice A n c) l) (hi : l[i]? = some m) : ∃ b off, A = some ⟨b, off, none⟩ ∧ b < w.heap.size ∧ ∃ lvval, w.cell? ⟨b, off + i * 7, none⟩ = some (.int .i64 m.serial) ∧ w.cell? ⟨b, off + i * 7 + 1, none⟩ = some (.int .i64 m.val.k) ∧ w.cell? ⟨b, off + i * 7 + 2, none⟩ = some (.int .i64 m.val.n) ∧ w.cell? ⟨b, off + i * 7 + 3, none⟩ = some (.string m.val.s) ∧ w.cell? ⟨b, off + i * 7 + 4, none⟩ = some (lvval) ∧ w.cell? ⟨b, off + i * 7 + 5, none⟩ = some (.bool m.rcd) ∧ w.cell? ⟨b, off + i * 7 + 6, none⟩ = some (.bool m.abt) ∧ okI m.serial ∧ RdInts w lvval m.val.l ∧ okI m.val.k ∧ okI m.val.n ∧ m.val.s.size ≤ 140737488351232 ∧ m.val.l.length * 8 ≤ 140737488351232 := by
  obtain ⟨b, off, cs, g1, g2, g3, _, g4⟩ := h.at_ hi
  obtain ⟨lvval, rfl, h0, h1, h2, h3, h4, h5⟩ := g3
  exact ⟨b, off, g1, g2, lvval, g4 0 (by omega), g4 1 (by omega), g4 2 (by omega), g4 3 (by omega), g4 4 (by omega), g4 5 (by omega), g4 6 (by omega), h0, h1, h2, h3, h4, h5⟩
/-- A pointer to one. -/
def PtPanic (w : World) (v : Value) (m : PanicM) : Prop := ∃ b off lvval, v = .pointer (some ⟨b, off, none⟩) ∧ b < w.heap.size ∧ w.cell? ⟨b, off, none⟩ = some (.int .i64 m.serial) ∧ w.cell? ⟨b, off + 1, none⟩ = some (.int .i64 m.val.k) ∧ w.cell? ⟨b, off + 2, none⟩ = some (.int .i64 m.val.n) ∧ w.cell? ⟨b, off + 3, none⟩ = some (.string m.val.s) ∧ w.cell? ⟨b, off + 4, none⟩ = some (lvval) ∧ w.cell? ⟨b, off + 5, none⟩ = some (.bool m.rcd) ∧ w.cell? ⟨b, off + 6, none⟩ = some (.bool m.abt) ∧ okI m.serial ∧ RdInts w lvval m.val.l ∧ okI m.val.k ∧ okI m.val.n ∧ m.val.s.size ≤ 140737488351232 ∧ m.val.l.length * 8 ≤ 140737488351232
theorem PtPanic.kp {w w' : World} {v : Value} {m : PanicM} (h : PtPanic w v m) (hk : Kp w w') : PtPanic w' v m := by
  obtain ⟨b, off, lvval, e, hb, g0, g1, g2, g3, g4, g5, g6, h0, h1, h2, h3, h4, h5⟩ := h
  exact ⟨b, off, lvval, e, Nat.lt_of_lt_of_le hb hk.le, cell_kp hk hb g0, cell_kp hk hb g1, cell_kp hk hb g2, cell_kp hk hb g3, cell_kp hk hb g4, cell_kp hk hb g5, cell_kp hk hb g6, h0, h1.kp hk, h2, h3, h4, h5⟩
theorem PtPanic.rd {w : World} {b off : Nat} {m : PanicM} (h : PtPanic w (.pointer (some ⟨b, off, none⟩)) m) : ∃ lvval, RdPanic w (.agg #[.int .i64 m.serial, .int .i64 m.val.k, .int .i64 m.val.n, .string m.val.s, lvval, .bool m.rcd, .bool m.abt]) m ∧ w.cell? ⟨b, off, none⟩ = some (.int .i64 m.serial) ∧ w.cell? ⟨b, off + 1, none⟩ = some (.int .i64 m.val.k) ∧ w.cell? ⟨b, off + 2, none⟩ = some (.int .i64 m.val.n) ∧ w.cell? ⟨b, off + 3, none⟩ = some (.string m.val.s) ∧ w.cell? ⟨b, off + 4, none⟩ = some (lvval) ∧ w.cell? ⟨b, off + 5, none⟩ = some (.bool m.rcd) ∧ w.cell? ⟨b, off + 6, none⟩ = some (.bool m.abt) := by
  obtain ⟨b', off', lvval, e, hb, g0, g1, g2, g3, g4, g5, g6, h0, h1, h2, h3, h4, h5⟩ := h
  cases e
  exact ⟨lvval, ⟨lvval, rfl, h0, h1, h2, h3, h4, h5⟩, g0, g1, g2, g3, g4, g5, g6⟩
theorem pt_panic {w : World} {v : Value} {l : List PanicM} {i : Nat} {m : PanicM} (h : RdL CePanic 7 w v l) (hi : l[i]? = some m) : ∃ b off c, v = .slice (some ⟨b, off, none⟩) l.length c ∧ l.length ≤ c ∧ PtPanic w (.pointer (some ⟨b, off + i * 7, none⟩)) m := by
  obtain ⟨A, c, rfl, hc⟩ := h.form
  obtain ⟨b, off, rfl, hb, lvval, g0, g1, g2, g3, g4, g5, g6, h0, h1, h2, h3, h4, h5⟩ := at_panic h hi
  exact ⟨b, off, c, rfl, hc, b, off + i * 7, lvval, rfl, hb, g0, g1, g2, g3, g4, g5, g6, h0, h1, h2, h3, h4, h5⟩
@[go_sem] theorem field_panic0 (x0 x1 x2 x3 x4 x5 x6 : Value) (w : World) : Sem.run Try.prog (Instr.field 46 (.agg #[x0, x1, x2, x3, x4, x5, x6]) 0) w = .ok (x0) w := by kernel_rfl
@[go_sem] theorem field_panic1 (x0 x1 x2 x3 x4 x5 x6 : Value) (w : World) : Sem.run Try.prog (Instr.field 46 (.agg #[x0, x1, x2, x3, x4, x5, x6]) 1) w = .ok (.agg #[x1, x2, x3, x4]) w := by kernel_rfl
@[go_sem] theorem field_panic2 (x0 x1 x2 x3 x4 x5 x6 : Value) (w : World) : Sem.run Try.prog (Instr.field 46 (.agg #[x0, x1, x2, x3, x4, x5, x6]) 2) w = .ok (x5) w := by kernel_rfl
@[go_sem] theorem field_panic3 (x0 x1 x2 x3 x4 x5 x6 : Value) (w : World) : Sem.run Try.prog (Instr.field 46 (.agg #[x0, x1, x2, x3, x4, x5, x6]) 3) w = .ok (x6) w := by kernel_rfl
section
variable {H : Type} {enc : TypeId × Value → H} {W : World} {base : Nat} {v : Value} {d : DataW H} {p : List MemPlace}
set_option maxRecDepth 100000 in
theorem open_panic_cells {fuel : Nat} {cs : List Value} (hf : DataW.trod enc Try.prog W 0 (fun _ => true) true fuel 46 cs = some (d, p)) (hz : ∀ n ∈ DataW.weights Try.prog 46 d, n ≤ reachBytes) : ∃ m, CePanic W cs m := by
  obtain ⟨xs, n, _, hx, hlen, hxl, hi⟩ := DataW.trod_struct Try.underlying46 hf
  simp only [Prod.mk.injEq] at hx
  obtain ⟨rfl, rfl⟩ := hx
  have hcl : cs.length = 7 := hlen.trans (by kernel_rfl)
  match cs, hcl with
  | [c0, c1, c2, c3, c4, c5, c6], _ =>
    match xs, hxl with
    | [y0, y1, y2, y3], _ =>
      have hw := fun j f d hf hd => weights_struct (H := H) (ds := [y0.1, y1.1, y2.1, y3.1]) Try.underlying46 hz j f d hf hd
      have e0 : Try.prog.cellsOf 3 = 1 := by kernel_rfl
      have e1 : Try.prog.cellsOf 25 = 4 := by kernel_rfl
      have e2 : Try.prog.cellsOf 4 = 1 := by kernel_rfl
      have q0 : DataW.trod enc Try.prog W 0 (fun _ => true) true n 3 (([c0, c1, c2, c3, c4, c5, c6].drop 0).take (Try.prog.cellsOf 3)) = some y0 := hi 0 _ rfl
      rw [e0] at q0
      have q1 : DataW.trod enc Try.prog W 0 (fun _ => true) true n 25 (([c0, c1, c2, c3, c4, c5, c6].drop 1).take (Try.prog.cellsOf 25)) = some y1 := hi 1 _ rfl
      rw [e1] at q1
      have z1 := hw 1 _ y1.1 rfl rfl
      have q2 : DataW.trod enc Try.prog W 0 (fun _ => true) true n 4 (([c0, c1, c2, c3, c4, c5, c6].drop 5).take (Try.prog.cellsOf 4)) = some y2 := hi 2 _ rfl
      rw [e2] at q2
      have q3 : DataW.trod enc Try.prog W 0 (fun _ => true) true n 4 (([c0, c1, c2, c3, c4, c5, c6].drop 6).take (Try.prog.cellsOf 4)) = some y3 := hi 3 _ rfl
      rw [e2] at q3
      obtain ⟨k0, g0, xx0, w0⟩ := DataW.trod_int Try.underlying3 q0
      simp at g0
      subst g0
      obtain ⟨k1, lvnq1, g1, hn1_0, hn1_1, hn1_2, hn1_3, hn1_4⟩ := open_value_cells (d := y1.1) (p := y1.2) q1 z1
      simp at g1
      obtain ⟨rfl, rfl, rfl, rfl⟩ := g1
      obtain ⟨k2, g2, xx2⟩ := DataW.trod_bool Try.underlying4 q2
      simp at g2
      subst g2
      obtain ⟨k3, g3, xx3⟩ := DataW.trod_bool Try.underlying4 q3
      simp at g3
      subst g3
      exact ⟨⟨k0, k1, k2, k3⟩, _, rfl, Go.bounds_i64 w0, hn1_0, hn1_1, hn1_2, hn1_3, hn1_4⟩
set_option maxRecDepth 100000 in
theorem open_panic (hval : Value.okWide Try.prog W .any base 46 v) (h : DataW.Trod enc Try.prog W 0 (fun _ => true) true 46 v d p) (hz : ∀ n ∈ DataW.weights Try.prog 46 d, n ≤ reachBytes) : ∃ m, RdPanic W v m := by
  obtain ⟨cs, rfl, hsz⟩ := okWide_struct Try.underlying46 hval
  obtain ⟨fuel, hf⟩ := h
  obtain ⟨m, u0, h1, h2⟩ := open_panic_cells hf hz
  refine ⟨m, u0, ?_, h2⟩
  have : cs.toList = [.int .i64 m.serial, .int .i64 m.val.k, .int .i64 m.val.n, .string m.val.s, u0, .bool m.rcd, .bool m.abt] := by simpa [Value.cells] using h1
  congr 1
  apply Array.toList_inj.1; rw [this]
/-- A slice of them that came in. -/
def RdPanicsB (w : World) (v : Value) (l : List PanicM) : Prop := RdL CePanic 7 w v l ∧ l.length * 72 ≤ 140737488351232
set_option maxRecDepth 100000 in
theorem open_panics (hval : Value.okWide Try.prog W .any base 34 v) (h : DataW.Trod enc Try.prog W 0 (fun _ => true) true 34 v d p) (hz : ∀ n ∈ DataW.weights Try.prog 34 d, n ≤ reachBytes) : ∃ l, RdPanicsB W v l := by
  obtain ⟨a0, len, cap, rfl⟩ := okWide_slice Try.underlying34 hval
  obtain ⟨fuel, hf⟩ := h
  obtain ⟨v', l, h1, h2, h3⟩ := open_list (el := CePanic) (sz := 7) (by_ := 72) Try.underlying34 (by kernel_rfl) (by omega) (by kernel_rfl) (fun fuel cs d p h hz => open_panic_cells h hz) hf hz
  have : Value.slice a0 len cap = v' := (List.cons.inj h1).1
  subst this
  exact ⟨l, h2, by unfold reachBytes at h3; omega⟩
end
theorem elPanic : El Try.prog 34 46 (.agg #[.int .i64 0, .int .i64 0, .int .i64 0, .string ⟨#[]⟩, .slice none 0 0, .bool false, .bool false]) 7 72 := El.mk_ Try.underlying34 (by kernel_rfl) rfl (by omega)

/-! ### api.Frame -/
structure FrameM where
  id : Int
  mark : Int
  panic : Int
  phase : Int
  defers : List Int
/-- The cells of one. -/
def CeFrame (w : World) (cs : List Value) (m : FrameM) : Prop := ∃ ldefers, cs = [.int .i64 m.id, .int .i64 m.mark, .int .i64 m.panic, .int .i64 m.phase, ldefers] ∧ okI m.id ∧ okI m.mark ∧ okI m.panic ∧ okI m.phase ∧ RdInts w ldefers m.defers ∧ m.defers.length * 8 ≤ 140737488351232
theorem CeFrame.kp : ElKp CeFrame := fun _ _ _ _ hk ⟨ldefers, h, h0, h1, h2, h3, h4, h5⟩ => ⟨ldefers, h, h0, h1, h2, h3, h4.kp hk, h5⟩
/-- As a value. -/
def RdFrame (w : World) (v : Value) (m : FrameM) : Prop := ∃ ldefers, v = .agg #[.int .i64 m.id, .int .i64 m.mark, .int .i64 m.panic, .int .i64 m.phase, ldefers] ∧ okI m.id ∧ okI m.mark ∧ okI m.panic ∧ okI m.phase ∧ RdInts w ldefers m.defers ∧ m.defers.length * 8 ≤ 140737488351232
theorem RdFrame.kp {w w' : World} {v : Value} {m : FrameM} (h : RdFrame w v m) (hk : Kp w w') : RdFrame w' v m := by
  obtain ⟨ldefers, h, h0, h1, h2, h3, h4, h5⟩ := h
  exact ⟨ldefers, h, h0, h1, h2, h3, h4.kp hk, h5⟩
/-- The element i: its cells. -/
theorem at_frame {w : World} {A : Option Addr} {n c : Nat} {l : List FrameM} {i : Nat} {m : FrameM} (h : RdL CeFrame 5 w (.slice A n c) l) (hi : l[i]? = some m) : ∃ b off, A = some ⟨b, off, none⟩ ∧ b < w.heap.size ∧ ∃ ldefers, w.cell? ⟨b, off + i * 5, none⟩ = some (.int .i64 m.id) ∧ w.cell? ⟨b, off + i * 5 + 1, none⟩ = some (.int .i64 m.mark) ∧ w.cell? ⟨b, off + i * 5 + 2, none⟩ = some (.int .i64 m.panic) ∧ w.cell? ⟨b, off + i * 5 + 3, none⟩ = some (.int .i64 m.phase) ∧ w.cell? ⟨b, off + i * 5 + 4, none⟩ = some (ldefers) ∧ okI m.id ∧ okI m.mark ∧ okI m.panic ∧ okI m.phase ∧ RdInts w ldefers m.defers ∧ m.defers.length * 8 ≤ 140737488351232 := by
  obtain ⟨b, off, cs, g1, g2, g3, _, g4⟩ := h.at_ hi
  obtain ⟨ldefers, rfl, h0, h1, h2, h3, h4, h5⟩ := g3
  exact ⟨b, off, g1, g2, ldefers, g4 0 (by omega), g4 1 (by omega), g4 2 (by omega), g4 3 (by omega), g4 4 (by omega), h0, h1, h2, h3, h4, h5⟩
/-- A pointer to one. -/
def PtFrame (w : World) (v : Value) (m : FrameM) : Prop := ∃ b off ldefers, v = .pointer (some ⟨b, off, none⟩) ∧ b < w.heap.size ∧ w.cell? ⟨b, off, none⟩ = some (.int .i64 m.id) ∧ w.cell? ⟨b, off + 1, none⟩ = some (.int .i64 m.mark) ∧ w.cell? ⟨b, off + 2, none⟩ = some (.int .i64 m.panic) ∧ w.cell? ⟨b, off + 3, none⟩ = some (.int .i64 m.phase) ∧ w.cell? ⟨b, off + 4, none⟩ = some (ldefers) ∧ okI m.id ∧ okI m.mark ∧ okI m.panic ∧ okI m.phase ∧ RdInts w ldefers m.defers ∧ m.defers.length * 8 ≤ 140737488351232
theorem PtFrame.kp {w w' : World} {v : Value} {m : FrameM} (h : PtFrame w v m) (hk : Kp w w') : PtFrame w' v m := by
  obtain ⟨b, off, ldefers, e, hb, g0, g1, g2, g3, g4, h0, h1, h2, h3, h4, h5⟩ := h
  exact ⟨b, off, ldefers, e, Nat.lt_of_lt_of_le hb hk.le, cell_kp hk hb g0, cell_kp hk hb g1, cell_kp hk hb g2, cell_kp hk hb g3, cell_kp hk hb g4, h0, h1, h2, h3, h4.kp hk, h5⟩
theorem PtFrame.rd {w : World} {b off : Nat} {m : FrameM} (h : PtFrame w (.pointer (some ⟨b, off, none⟩)) m) : ∃ ldefers, RdFrame w (.agg #[.int .i64 m.id, .int .i64 m.mark, .int .i64 m.panic, .int .i64 m.phase, ldefers]) m ∧ w.cell? ⟨b, off, none⟩ = some (.int .i64 m.id) ∧ w.cell? ⟨b, off + 1, none⟩ = some (.int .i64 m.mark) ∧ w.cell? ⟨b, off + 2, none⟩ = some (.int .i64 m.panic) ∧ w.cell? ⟨b, off + 3, none⟩ = some (.int .i64 m.phase) ∧ w.cell? ⟨b, off + 4, none⟩ = some (ldefers) := by
  obtain ⟨b', off', ldefers, e, hb, g0, g1, g2, g3, g4, h0, h1, h2, h3, h4, h5⟩ := h
  cases e
  exact ⟨ldefers, ⟨ldefers, rfl, h0, h1, h2, h3, h4, h5⟩, g0, g1, g2, g3, g4⟩
theorem pt_frame {w : World} {v : Value} {l : List FrameM} {i : Nat} {m : FrameM} (h : RdL CeFrame 5 w v l) (hi : l[i]? = some m) : ∃ b off c, v = .slice (some ⟨b, off, none⟩) l.length c ∧ l.length ≤ c ∧ PtFrame w (.pointer (some ⟨b, off + i * 5, none⟩)) m := by
  obtain ⟨A, c, rfl, hc⟩ := h.form
  obtain ⟨b, off, rfl, hb, ldefers, g0, g1, g2, g3, g4, h0, h1, h2, h3, h4, h5⟩ := at_frame h hi
  exact ⟨b, off, c, rfl, hc, b, off + i * 5, ldefers, rfl, hb, g0, g1, g2, g3, g4, h0, h1, h2, h3, h4, h5⟩
@[go_sem] theorem field_frame0 (x0 x1 x2 x3 x4 : Value) (w : World) : Sem.run Try.prog (Instr.field 44 (.agg #[x0, x1, x2, x3, x4]) 0) w = .ok (x0) w := by kernel_rfl
@[go_sem] theorem field_frame1 (x0 x1 x2 x3 x4 : Value) (w : World) : Sem.run Try.prog (Instr.field 44 (.agg #[x0, x1, x2, x3, x4]) 1) w = .ok (x1) w := by kernel_rfl
@[go_sem] theorem field_frame2 (x0 x1 x2 x3 x4 : Value) (w : World) : Sem.run Try.prog (Instr.field 44 (.agg #[x0, x1, x2, x3, x4]) 2) w = .ok (x2) w := by kernel_rfl
@[go_sem] theorem field_frame3 (x0 x1 x2 x3 x4 : Value) (w : World) : Sem.run Try.prog (Instr.field 44 (.agg #[x0, x1, x2, x3, x4]) 3) w = .ok (x3) w := by kernel_rfl
@[go_sem] theorem field_frame4 (x0 x1 x2 x3 x4 : Value) (w : World) : Sem.run Try.prog (Instr.field 44 (.agg #[x0, x1, x2, x3, x4]) 4) w = .ok (x4) w := by kernel_rfl
section
variable {H : Type} {enc : TypeId × Value → H} {W : World} {base : Nat} {v : Value} {d : DataW H} {p : List MemPlace}
set_option maxRecDepth 100000 in
theorem open_frame_cells {fuel : Nat} {cs : List Value} (hf : DataW.trod enc Try.prog W 0 (fun _ => true) true fuel 44 cs = some (d, p)) (hz : ∀ n ∈ DataW.weights Try.prog 44 d, n ≤ reachBytes) : ∃ m, CeFrame W cs m := by
  obtain ⟨xs, n, _, hx, hlen, hxl, hi⟩ := DataW.trod_struct Try.underlying44 hf
  simp only [Prod.mk.injEq] at hx
  obtain ⟨rfl, rfl⟩ := hx
  have hcl : cs.length = 5 := hlen.trans (by kernel_rfl)
  match cs, hcl with
  | [c0, c1, c2, c3, c4], _ =>
    match xs, hxl with
    | [y0, y1, y2, y3, y4], _ =>
      have hw := fun j f d hf hd => weights_struct (H := H) (ds := [y0.1, y1.1, y2.1, y3.1, y4.1]) Try.underlying44 hz j f d hf hd
      have e0 : Try.prog.cellsOf 3 = 1 := by kernel_rfl
      have e1 : Try.prog.cellsOf 23 = 1 := by kernel_rfl
      have q0 : DataW.trod enc Try.prog W 0 (fun _ => true) true n 3 (([c0, c1, c2, c3, c4].drop 0).take (Try.prog.cellsOf 3)) = some y0 := hi 0 _ rfl
      rw [e0] at q0
      have q1 : DataW.trod enc Try.prog W 0 (fun _ => true) true n 3 (([c0, c1, c2, c3, c4].drop 1).take (Try.prog.cellsOf 3)) = some y1 := hi 1 _ rfl
      rw [e0] at q1
      have q2 : DataW.trod enc Try.prog W 0 (fun _ => true) true n 3 (([c0, c1, c2, c3, c4].drop 2).take (Try.prog.cellsOf 3)) = some y2 := hi 2 _ rfl
      rw [e0] at q2
      have q3 : DataW.trod enc Try.prog W 0 (fun _ => true) true n 3 (([c0, c1, c2, c3, c4].drop 3).take (Try.prog.cellsOf 3)) = some y3 := hi 3 _ rfl
      rw [e0] at q3
      have q4 : DataW.trod enc Try.prog W 0 (fun _ => true) true n 23 (([c0, c1, c2, c3, c4].drop 4).take (Try.prog.cellsOf 23)) = some y4 := hi 4 _ rfl
      rw [e1] at q4
      have z4 := hw 4 _ y4.1 rfl rfl
      obtain ⟨k0, g0, xx0, w0⟩ := DataW.trod_int Try.underlying3 q0
      simp at g0
      subst g0
      obtain ⟨k1, g1, xx1, w1⟩ := DataW.trod_int Try.underlying3 q1
      simp at g1
      subst g1
      obtain ⟨k2, g2, xx2, w2⟩ := DataW.trod_int Try.underlying3 q2
      simp at g2
      subst g2
      obtain ⟨k3, g3, xx3, w3⟩ := DataW.trod_int Try.underlying3 q3
      simp at g3
      subst g3
      obtain ⟨lv4, k4, g4, xx4, w4⟩ := open_ints_cells (d := y4.1) (p := y4.2) q4 z4
      simp at g4
      subst g4
      exact ⟨⟨k0, k1, k2, k3, k4⟩, _, rfl, Go.bounds_i64 w0, Go.bounds_i64 w1, Go.bounds_i64 w2, Go.bounds_i64 w3, xx4, w4⟩
set_option maxRecDepth 100000 in
theorem open_frame (hval : Value.okWide Try.prog W .any base 44 v) (h : DataW.Trod enc Try.prog W 0 (fun _ => true) true 44 v d p) (hz : ∀ n ∈ DataW.weights Try.prog 44 d, n ≤ reachBytes) : ∃ m, RdFrame W v m := by
  obtain ⟨cs, rfl, hsz⟩ := okWide_struct Try.underlying44 hval
  obtain ⟨fuel, hf⟩ := h
  obtain ⟨m, u0, h1, h2⟩ := open_frame_cells hf hz
  refine ⟨m, u0, ?_, h2⟩
  have : cs.toList = [.int .i64 m.id, .int .i64 m.mark, .int .i64 m.panic, .int .i64 m.phase, u0] := by simpa [Value.cells] using h1
  congr 1
  apply Array.toList_inj.1; rw [this]
/-- A slice of them that came in. -/
def RdFramesB (w : World) (v : Value) (l : List FrameM) : Prop := RdL CeFrame 5 w v l ∧ l.length * 56 ≤ 140737488351232
set_option maxRecDepth 100000 in
theorem open_frames (hval : Value.okWide Try.prog W .any base 33 v) (h : DataW.Trod enc Try.prog W 0 (fun _ => true) true 33 v d p) (hz : ∀ n ∈ DataW.weights Try.prog 33 d, n ≤ reachBytes) : ∃ l, RdFramesB W v l := by
  obtain ⟨a0, len, cap, rfl⟩ := okWide_slice Try.underlying33 hval
  obtain ⟨fuel, hf⟩ := h
  obtain ⟨v', l, h1, h2, h3⟩ := open_list (el := CeFrame) (sz := 5) (by_ := 56) Try.underlying33 (by kernel_rfl) (by omega) (by kernel_rfl) (fun fuel cs d p h hz => open_frame_cells h hz) hf hz
  have : Value.slice a0 len cap = v' := (List.cons.inj h1).1
  subst this
  exact ⟨l, h2, by unfold reachBytes at h3; omega⟩
end
theorem elFrame : El Try.prog 33 44 (.agg #[.int .i64 0, .int .i64 0, .int .i64 0, .int .i64 0, .slice none 0 0]) 5 56 := El.mk_ Try.underlying33 (by kernel_rfl) rfl (by omega)

/-! ### api.Tell -/
structure TellM where
  kind : Int
  n : Int
  to : Int
  v : ValM
/-- The cells of one. -/
def CeTell (w : World) (cs : List Value) (m : TellM) : Prop := ∃ lvv, cs = [.int .i64 m.kind, .int .i64 m.n, .int .i64 m.to, .int .i64 m.v.k, .int .i64 m.v.n, .string m.v.s, lvv] ∧ okI m.kind ∧ okI m.n ∧ okI m.to ∧ RdInts w lvv m.v.l ∧ okI m.v.k ∧ okI m.v.n ∧ m.v.s.size ≤ 140737488351232 ∧ m.v.l.length * 8 ≤ 140737488351232
theorem CeTell.kp : ElKp CeTell := fun _ _ _ _ hk ⟨lvv, h, h0, h1, h2, h3, h4, h5, h6, h7⟩ => ⟨lvv, h, h0, h1, h2, h3.kp hk, h4, h5, h6, h7⟩
/-- As a value. -/
def RdTell (w : World) (v : Value) (m : TellM) : Prop := ∃ lvv, v = .agg #[.int .i64 m.kind, .int .i64 m.n, .int .i64 m.to, .int .i64 m.v.k, .int .i64 m.v.n, .string m.v.s, lvv] ∧ okI m.kind ∧ okI m.n ∧ okI m.to ∧ RdInts w lvv m.v.l ∧ okI m.v.k ∧ okI m.v.n ∧ m.v.s.size ≤ 140737488351232 ∧ m.v.l.length * 8 ≤ 140737488351232
theorem RdTell.kp {w w' : World} {v : Value} {m : TellM} (h : RdTell w v m) (hk : Kp w w') : RdTell w' v m := by
  obtain ⟨lvv, h, h0, h1, h2, h3, h4, h5, h6, h7⟩ := h
  exact ⟨lvv, h, h0, h1, h2, h3.kp hk, h4, h5, h6, h7⟩
/-- The element i: its cells. -/
theorem at_tell {w : World} {A : Option Addr} {n c : Nat} {l : List TellM} {i : Nat} {m : TellM} (h : RdL CeTell 7 w (.slice A n c) l) (hi : l[i]? = some m) : ∃ b off, A = some ⟨b, off, none⟩ ∧ b < w.heap.size ∧ ∃ lvv, w.cell? ⟨b, off + i * 7, none⟩ = some (.int .i64 m.kind) ∧ w.cell? ⟨b, off + i * 7 + 1, none⟩ = some (.int .i64 m.n) ∧ w.cell? ⟨b, off + i * 7 + 2, none⟩ = some (.int .i64 m.to) ∧ w.cell? ⟨b, off + i * 7 + 3, none⟩ = some (.int .i64 m.v.k) ∧ w.cell? ⟨b, off + i * 7 + 4, none⟩ = some (.int .i64 m.v.n) ∧ w.cell? ⟨b, off + i * 7 + 5, none⟩ = some (.string m.v.s) ∧ w.cell? ⟨b, off + i * 7 + 6, none⟩ = some (lvv) ∧ okI m.kind ∧ okI m.n ∧ okI m.to ∧ RdInts w lvv m.v.l ∧ okI m.v.k ∧ okI m.v.n ∧ m.v.s.size ≤ 140737488351232 ∧ m.v.l.length * 8 ≤ 140737488351232 := by
  obtain ⟨b, off, cs, g1, g2, g3, _, g4⟩ := h.at_ hi
  obtain ⟨lvv, rfl, h0, h1, h2, h3, h4, h5, h6, h7⟩ := g3
  exact ⟨b, off, g1, g2, lvv, g4 0 (by omega), g4 1 (by omega), g4 2 (by omega), g4 3 (by omega), g4 4 (by omega), g4 5 (by omega), g4 6 (by omega), h0, h1, h2, h3, h4, h5, h6, h7⟩
/-- A pointer to one. -/
def PtTell (w : World) (v : Value) (m : TellM) : Prop := ∃ b off lvv, v = .pointer (some ⟨b, off, none⟩) ∧ b < w.heap.size ∧ w.cell? ⟨b, off, none⟩ = some (.int .i64 m.kind) ∧ w.cell? ⟨b, off + 1, none⟩ = some (.int .i64 m.n) ∧ w.cell? ⟨b, off + 2, none⟩ = some (.int .i64 m.to) ∧ w.cell? ⟨b, off + 3, none⟩ = some (.int .i64 m.v.k) ∧ w.cell? ⟨b, off + 4, none⟩ = some (.int .i64 m.v.n) ∧ w.cell? ⟨b, off + 5, none⟩ = some (.string m.v.s) ∧ w.cell? ⟨b, off + 6, none⟩ = some (lvv) ∧ okI m.kind ∧ okI m.n ∧ okI m.to ∧ RdInts w lvv m.v.l ∧ okI m.v.k ∧ okI m.v.n ∧ m.v.s.size ≤ 140737488351232 ∧ m.v.l.length * 8 ≤ 140737488351232
theorem PtTell.kp {w w' : World} {v : Value} {m : TellM} (h : PtTell w v m) (hk : Kp w w') : PtTell w' v m := by
  obtain ⟨b, off, lvv, e, hb, g0, g1, g2, g3, g4, g5, g6, h0, h1, h2, h3, h4, h5, h6, h7⟩ := h
  exact ⟨b, off, lvv, e, Nat.lt_of_lt_of_le hb hk.le, cell_kp hk hb g0, cell_kp hk hb g1, cell_kp hk hb g2, cell_kp hk hb g3, cell_kp hk hb g4, cell_kp hk hb g5, cell_kp hk hb g6, h0, h1, h2, h3.kp hk, h4, h5, h6, h7⟩
theorem PtTell.rd {w : World} {b off : Nat} {m : TellM} (h : PtTell w (.pointer (some ⟨b, off, none⟩)) m) : ∃ lvv, RdTell w (.agg #[.int .i64 m.kind, .int .i64 m.n, .int .i64 m.to, .int .i64 m.v.k, .int .i64 m.v.n, .string m.v.s, lvv]) m ∧ w.cell? ⟨b, off, none⟩ = some (.int .i64 m.kind) ∧ w.cell? ⟨b, off + 1, none⟩ = some (.int .i64 m.n) ∧ w.cell? ⟨b, off + 2, none⟩ = some (.int .i64 m.to) ∧ w.cell? ⟨b, off + 3, none⟩ = some (.int .i64 m.v.k) ∧ w.cell? ⟨b, off + 4, none⟩ = some (.int .i64 m.v.n) ∧ w.cell? ⟨b, off + 5, none⟩ = some (.string m.v.s) ∧ w.cell? ⟨b, off + 6, none⟩ = some (lvv) := by
  obtain ⟨b', off', lvv, e, hb, g0, g1, g2, g3, g4, g5, g6, h0, h1, h2, h3, h4, h5, h6, h7⟩ := h
  cases e
  exact ⟨lvv, ⟨lvv, rfl, h0, h1, h2, h3, h4, h5, h6, h7⟩, g0, g1, g2, g3, g4, g5, g6⟩
theorem pt_tell {w : World} {v : Value} {l : List TellM} {i : Nat} {m : TellM} (h : RdL CeTell 7 w v l) (hi : l[i]? = some m) : ∃ b off c, v = .slice (some ⟨b, off, none⟩) l.length c ∧ l.length ≤ c ∧ PtTell w (.pointer (some ⟨b, off + i * 7, none⟩)) m := by
  obtain ⟨A, c, rfl, hc⟩ := h.form
  obtain ⟨b, off, rfl, hb, lvv, g0, g1, g2, g3, g4, g5, g6, h0, h1, h2, h3, h4, h5, h6, h7⟩ := at_tell h hi
  exact ⟨b, off, c, rfl, hc, b, off + i * 7, lvv, rfl, hb, g0, g1, g2, g3, g4, g5, g6, h0, h1, h2, h3, h4, h5, h6, h7⟩
@[go_sem] theorem field_tell0 (x0 x1 x2 x3 x4 x5 x6 : Value) (w : World) : Sem.run Try.prog (Instr.field 131 (.agg #[x0, x1, x2, x3, x4, x5, x6]) 0) w = .ok (x0) w := by kernel_rfl
@[go_sem] theorem field_tell1 (x0 x1 x2 x3 x4 x5 x6 : Value) (w : World) : Sem.run Try.prog (Instr.field 131 (.agg #[x0, x1, x2, x3, x4, x5, x6]) 1) w = .ok (x1) w := by kernel_rfl
@[go_sem] theorem field_tell2 (x0 x1 x2 x3 x4 x5 x6 : Value) (w : World) : Sem.run Try.prog (Instr.field 131 (.agg #[x0, x1, x2, x3, x4, x5, x6]) 2) w = .ok (x2) w := by kernel_rfl
@[go_sem] theorem field_tell3 (x0 x1 x2 x3 x4 x5 x6 : Value) (w : World) : Sem.run Try.prog (Instr.field 131 (.agg #[x0, x1, x2, x3, x4, x5, x6]) 3) w = .ok (.agg #[x3, x4, x5, x6]) w := by kernel_rfl
section
variable {H : Type} {enc : TypeId × Value → H} {W : World} {base : Nat} {v : Value} {d : DataW H} {p : List MemPlace}
set_option maxRecDepth 100000 in
theorem open_tell_cells {fuel : Nat} {cs : List Value} (hf : DataW.trod enc Try.prog W 0 (fun _ => true) true fuel 131 cs = some (d, p)) (hz : ∀ n ∈ DataW.weights Try.prog 131 d, n ≤ reachBytes) : ∃ m, CeTell W cs m := by
  obtain ⟨xs, n, _, hx, hlen, hxl, hi⟩ := DataW.trod_struct Try.underlying131 hf
  simp only [Prod.mk.injEq] at hx
  obtain ⟨rfl, rfl⟩ := hx
  have hcl : cs.length = 7 := hlen.trans (by kernel_rfl)
  match cs, hcl with
  | [c0, c1, c2, c3, c4, c5, c6], _ =>
    match xs, hxl with
    | [y0, y1, y2, y3], _ =>
      have hw := fun j f d hf hd => weights_struct (H := H) (ds := [y0.1, y1.1, y2.1, y3.1]) Try.underlying131 hz j f d hf hd
      have e0 : Try.prog.cellsOf 3 = 1 := by kernel_rfl
      have e1 : Try.prog.cellsOf 25 = 4 := by kernel_rfl
      have q0 : DataW.trod enc Try.prog W 0 (fun _ => true) true n 3 (([c0, c1, c2, c3, c4, c5, c6].drop 0).take (Try.prog.cellsOf 3)) = some y0 := hi 0 _ rfl
      rw [e0] at q0
      have q1 : DataW.trod enc Try.prog W 0 (fun _ => true) true n 3 (([c0, c1, c2, c3, c4, c5, c6].drop 1).take (Try.prog.cellsOf 3)) = some y1 := hi 1 _ rfl
      rw [e0] at q1
      have q2 : DataW.trod enc Try.prog W 0 (fun _ => true) true n 3 (([c0, c1, c2, c3, c4, c5, c6].drop 2).take (Try.prog.cellsOf 3)) = some y2 := hi 2 _ rfl
      rw [e0] at q2
      have q3 : DataW.trod enc Try.prog W 0 (fun _ => true) true n 25 (([c0, c1, c2, c3, c4, c5, c6].drop 3).take (Try.prog.cellsOf 25)) = some y3 := hi 3 _ rfl
      rw [e1] at q3
      have z3 := hw 3 _ y3.1 rfl rfl
      obtain ⟨k0, g0, xx0, w0⟩ := DataW.trod_int Try.underlying3 q0
      simp at g0
      subst g0
      obtain ⟨k1, g1, xx1, w1⟩ := DataW.trod_int Try.underlying3 q1
      simp at g1
      subst g1
      obtain ⟨k2, g2, xx2, w2⟩ := DataW.trod_int Try.underlying3 q2
      simp at g2
      subst g2
      obtain ⟨k3, lvnq3, g3, hn3_0, hn3_1, hn3_2, hn3_3, hn3_4⟩ := open_value_cells (d := y3.1) (p := y3.2) q3 z3
      simp at g3
      obtain ⟨rfl, rfl, rfl, rfl⟩ := g3
      exact ⟨⟨k0, k1, k2, k3⟩, _, rfl, Go.bounds_i64 w0, Go.bounds_i64 w1, Go.bounds_i64 w2, hn3_0, hn3_1, hn3_2, hn3_3, hn3_4⟩
set_option maxRecDepth 100000 in
theorem open_tell (hval : Value.okWide Try.prog W .any base 131 v) (h : DataW.Trod enc Try.prog W 0 (fun _ => true) true 131 v d p) (hz : ∀ n ∈ DataW.weights Try.prog 131 d, n ≤ reachBytes) : ∃ m, RdTell W v m := by
  obtain ⟨cs, rfl, hsz⟩ := okWide_struct Try.underlying131 hval
  obtain ⟨fuel, hf⟩ := h
  obtain ⟨m, u0, h1, h2⟩ := open_tell_cells hf hz
  refine ⟨m, u0, ?_, h2⟩
  have : cs.toList = [.int .i64 m.kind, .int .i64 m.n, .int .i64 m.to, .int .i64 m.v.k, .int .i64 m.v.n, .string m.v.s, u0] := by simpa [Value.cells] using h1
  congr 1
  apply Array.toList_inj.1; rw [this]
/-- A slice of them that came in. -/
def RdTellsB (w : World) (v : Value) (l : List TellM) : Prop := RdL CeTell 7 w v l ∧ l.length * 80 ≤ 140737488351232
set_option maxRecDepth 100000 in
theorem open_tells (hval : Value.okWide Try.prog W .any base 38 v) (h : DataW.Trod enc Try.prog W 0 (fun _ => true) true 38 v d p) (hz : ∀ n ∈ DataW.weights Try.prog 38 d, n ≤ reachBytes) : ∃ l, RdTellsB W v l := by
  obtain ⟨a0, len, cap, rfl⟩ := okWide_slice Try.underlying38 hval
  obtain ⟨fuel, hf⟩ := h
  obtain ⟨v', l, h1, h2, h3⟩ := open_list (el := CeTell) (sz := 7) (by_ := 80) Try.underlying38 (by kernel_rfl) (by omega) (by kernel_rfl) (fun fuel cs d p h hz => open_tell_cells h hz) hf hz
  have : Value.slice a0 len cap = v' := (List.cons.inj h1).1
  subst this
  exact ⟨l, h2, by unfold reachBytes at h3; omega⟩
end
theorem elTell : El Try.prog 38 131 (.agg #[.int .i64 0, .int .i64 0, .int .i64 0, .int .i64 0, .int .i64 0, .string ⟨#[]⟩, .slice none 0 0]) 7 80 := El.mk_ Try.underlying38 (by kernel_rfl) rfl (by omega)

/-! ### api.State -/
structure StateM where
  frames : List FrameM
  panics : List PanicM
  next : Int
  serial : Int
  end_ : Int
  status : Int
/-- The cells of one. -/
def CeState (w : World) (cs : List Value) (m : StateM) : Prop := ∃ lframes lpanics, cs = [lframes, lpanics, .int .i64 m.next, .int .i64 m.serial, .int .i64 m.end_, .int .i64 m.status] ∧ RdL CeFrame 5 w lframes m.frames ∧ m.frames.length * 56 ≤ 140737488351232 ∧ RdL CePanic 7 w lpanics m.panics ∧ m.panics.length * 72 ≤ 140737488351232 ∧ okI m.next ∧ okI m.serial ∧ okI m.end_ ∧ okI m.status
theorem CeState.kp : ElKp CeState := fun _ _ _ _ hk ⟨lframes, lpanics, h, h0, h1, h2, h3, h4, h5, h6, h7⟩ => ⟨lframes, lpanics, h, h0.kp CeFrame.kp hk, h1, h2.kp CePanic.kp hk, h3, h4, h5, h6, h7⟩
/-- As a value. -/
def RdState (w : World) (v : Value) (m : StateM) : Prop := ∃ lframes lpanics, v = .agg #[lframes, lpanics, .int .i64 m.next, .int .i64 m.serial, .int .i64 m.end_, .int .i64 m.status] ∧ RdL CeFrame 5 w lframes m.frames ∧ m.frames.length * 56 ≤ 140737488351232 ∧ RdL CePanic 7 w lpanics m.panics ∧ m.panics.length * 72 ≤ 140737488351232 ∧ okI m.next ∧ okI m.serial ∧ okI m.end_ ∧ okI m.status
theorem RdState.kp {w w' : World} {v : Value} {m : StateM} (h : RdState w v m) (hk : Kp w w') : RdState w' v m := by
  obtain ⟨lframes, lpanics, h, h0, h1, h2, h3, h4, h5, h6, h7⟩ := h
  exact ⟨lframes, lpanics, h, h0.kp CeFrame.kp hk, h1, h2.kp CePanic.kp hk, h3, h4, h5, h6, h7⟩
/-- The element i: its cells. -/
theorem at_state {w : World} {A : Option Addr} {n c : Nat} {l : List StateM} {i : Nat} {m : StateM} (h : RdL CeState 6 w (.slice A n c) l) (hi : l[i]? = some m) : ∃ b off, A = some ⟨b, off, none⟩ ∧ b < w.heap.size ∧ ∃ lframes lpanics, w.cell? ⟨b, off + i * 6, none⟩ = some (lframes) ∧ w.cell? ⟨b, off + i * 6 + 1, none⟩ = some (lpanics) ∧ w.cell? ⟨b, off + i * 6 + 2, none⟩ = some (.int .i64 m.next) ∧ w.cell? ⟨b, off + i * 6 + 3, none⟩ = some (.int .i64 m.serial) ∧ w.cell? ⟨b, off + i * 6 + 4, none⟩ = some (.int .i64 m.end_) ∧ w.cell? ⟨b, off + i * 6 + 5, none⟩ = some (.int .i64 m.status) ∧ RdL CeFrame 5 w lframes m.frames ∧ m.frames.length * 56 ≤ 140737488351232 ∧ RdL CePanic 7 w lpanics m.panics ∧ m.panics.length * 72 ≤ 140737488351232 ∧ okI m.next ∧ okI m.serial ∧ okI m.end_ ∧ okI m.status := by
  obtain ⟨b, off, cs, g1, g2, g3, _, g4⟩ := h.at_ hi
  obtain ⟨lframes, lpanics, rfl, h0, h1, h2, h3, h4, h5, h6, h7⟩ := g3
  exact ⟨b, off, g1, g2, lframes, lpanics, g4 0 (by omega), g4 1 (by omega), g4 2 (by omega), g4 3 (by omega), g4 4 (by omega), g4 5 (by omega), h0, h1, h2, h3, h4, h5, h6, h7⟩
/-- A pointer to one. -/
def PtState (w : World) (v : Value) (m : StateM) : Prop := ∃ b off lframes lpanics, v = .pointer (some ⟨b, off, none⟩) ∧ b < w.heap.size ∧ w.cell? ⟨b, off, none⟩ = some (lframes) ∧ w.cell? ⟨b, off + 1, none⟩ = some (lpanics) ∧ w.cell? ⟨b, off + 2, none⟩ = some (.int .i64 m.next) ∧ w.cell? ⟨b, off + 3, none⟩ = some (.int .i64 m.serial) ∧ w.cell? ⟨b, off + 4, none⟩ = some (.int .i64 m.end_) ∧ w.cell? ⟨b, off + 5, none⟩ = some (.int .i64 m.status) ∧ RdL CeFrame 5 w lframes m.frames ∧ m.frames.length * 56 ≤ 140737488351232 ∧ RdL CePanic 7 w lpanics m.panics ∧ m.panics.length * 72 ≤ 140737488351232 ∧ okI m.next ∧ okI m.serial ∧ okI m.end_ ∧ okI m.status
theorem PtState.kp {w w' : World} {v : Value} {m : StateM} (h : PtState w v m) (hk : Kp w w') : PtState w' v m := by
  obtain ⟨b, off, lframes, lpanics, e, hb, g0, g1, g2, g3, g4, g5, h0, h1, h2, h3, h4, h5, h6, h7⟩ := h
  exact ⟨b, off, lframes, lpanics, e, Nat.lt_of_lt_of_le hb hk.le, cell_kp hk hb g0, cell_kp hk hb g1, cell_kp hk hb g2, cell_kp hk hb g3, cell_kp hk hb g4, cell_kp hk hb g5, h0.kp CeFrame.kp hk, h1, h2.kp CePanic.kp hk, h3, h4, h5, h6, h7⟩
theorem PtState.rd {w : World} {b off : Nat} {m : StateM} (h : PtState w (.pointer (some ⟨b, off, none⟩)) m) : ∃ lframes lpanics, RdState w (.agg #[lframes, lpanics, .int .i64 m.next, .int .i64 m.serial, .int .i64 m.end_, .int .i64 m.status]) m ∧ w.cell? ⟨b, off, none⟩ = some (lframes) ∧ w.cell? ⟨b, off + 1, none⟩ = some (lpanics) ∧ w.cell? ⟨b, off + 2, none⟩ = some (.int .i64 m.next) ∧ w.cell? ⟨b, off + 3, none⟩ = some (.int .i64 m.serial) ∧ w.cell? ⟨b, off + 4, none⟩ = some (.int .i64 m.end_) ∧ w.cell? ⟨b, off + 5, none⟩ = some (.int .i64 m.status) := by
  obtain ⟨b', off', lframes, lpanics, e, hb, g0, g1, g2, g3, g4, g5, h0, h1, h2, h3, h4, h5, h6, h7⟩ := h
  cases e
  exact ⟨lframes, lpanics, ⟨lframes, lpanics, rfl, h0, h1, h2, h3, h4, h5, h6, h7⟩, g0, g1, g2, g3, g4, g5⟩
theorem pt_state {w : World} {v : Value} {l : List StateM} {i : Nat} {m : StateM} (h : RdL CeState 6 w v l) (hi : l[i]? = some m) : ∃ b off c, v = .slice (some ⟨b, off, none⟩) l.length c ∧ l.length ≤ c ∧ PtState w (.pointer (some ⟨b, off + i * 6, none⟩)) m := by
  obtain ⟨A, c, rfl, hc⟩ := h.form
  obtain ⟨b, off, rfl, hb, lframes, lpanics, g0, g1, g2, g3, g4, g5, h0, h1, h2, h3, h4, h5, h6, h7⟩ := at_state h hi
  exact ⟨b, off, c, rfl, hc, b, off + i * 6, lframes, lpanics, rfl, hb, g0, g1, g2, g3, g4, g5, h0, h1, h2, h3, h4, h5, h6, h7⟩
@[go_sem] theorem field_state0 (x0 x1 x2 x3 x4 x5 : Value) (w : World) : Sem.run Try.prog (Instr.field 36 (.agg #[x0, x1, x2, x3, x4, x5]) 0) w = .ok (x0) w := by kernel_rfl
@[go_sem] theorem field_state1 (x0 x1 x2 x3 x4 x5 : Value) (w : World) : Sem.run Try.prog (Instr.field 36 (.agg #[x0, x1, x2, x3, x4, x5]) 1) w = .ok (x1) w := by kernel_rfl
@[go_sem] theorem field_state2 (x0 x1 x2 x3 x4 x5 : Value) (w : World) : Sem.run Try.prog (Instr.field 36 (.agg #[x0, x1, x2, x3, x4, x5]) 2) w = .ok (x2) w := by kernel_rfl
@[go_sem] theorem field_state3 (x0 x1 x2 x3 x4 x5 : Value) (w : World) : Sem.run Try.prog (Instr.field 36 (.agg #[x0, x1, x2, x3, x4, x5]) 3) w = .ok (x3) w := by kernel_rfl
@[go_sem] theorem field_state4 (x0 x1 x2 x3 x4 x5 : Value) (w : World) : Sem.run Try.prog (Instr.field 36 (.agg #[x0, x1, x2, x3, x4, x5]) 4) w = .ok (x4) w := by kernel_rfl
@[go_sem] theorem field_state5 (x0 x1 x2 x3 x4 x5 : Value) (w : World) : Sem.run Try.prog (Instr.field 36 (.agg #[x0, x1, x2, x3, x4, x5]) 5) w = .ok (x5) w := by kernel_rfl
section
variable {H : Type} {enc : TypeId × Value → H} {W : World} {base : Nat} {v : Value} {d : DataW H} {p : List MemPlace}
set_option maxRecDepth 100000 in
theorem open_state_cells {fuel : Nat} {cs : List Value} (hf : DataW.trod enc Try.prog W 0 (fun _ => true) true fuel 36 cs = some (d, p)) (hz : ∀ n ∈ DataW.weights Try.prog 36 d, n ≤ reachBytes) : ∃ m, CeState W cs m := by
  obtain ⟨xs, n, _, hx, hlen, hxl, hi⟩ := DataW.trod_struct Try.underlying36 hf
  simp only [Prod.mk.injEq] at hx
  obtain ⟨rfl, rfl⟩ := hx
  have hcl : cs.length = 6 := hlen.trans (by kernel_rfl)
  match cs, hcl with
  | [c0, c1, c2, c3, c4, c5], _ =>
    match xs, hxl with
    | [y0, y1, y2, y3, y4, y5], _ =>
      have hw := fun j f d hf hd => weights_struct (H := H) (ds := [y0.1, y1.1, y2.1, y3.1, y4.1, y5.1]) Try.underlying36 hz j f d hf hd
      have e0 : Try.prog.cellsOf 33 = 1 := by kernel_rfl
      have e1 : Try.prog.cellsOf 34 = 1 := by kernel_rfl
      have e2 : Try.prog.cellsOf 3 = 1 := by kernel_rfl
      have q0 : DataW.trod enc Try.prog W 0 (fun _ => true) true n 33 (([c0, c1, c2, c3, c4, c5].drop 0).take (Try.prog.cellsOf 33)) = some y0 := hi 0 _ rfl
      rw [e0] at q0
      have z0 := hw 0 _ y0.1 rfl rfl
      have q1 : DataW.trod enc Try.prog W 0 (fun _ => true) true n 34 (([c0, c1, c2, c3, c4, c5].drop 1).take (Try.prog.cellsOf 34)) = some y1 := hi 1 _ rfl
      rw [e1] at q1
      have z1 := hw 1 _ y1.1 rfl rfl
      have q2 : DataW.trod enc Try.prog W 0 (fun _ => true) true n 3 (([c0, c1, c2, c3, c4, c5].drop 2).take (Try.prog.cellsOf 3)) = some y2 := hi 2 _ rfl
      rw [e2] at q2
      have q3 : DataW.trod enc Try.prog W 0 (fun _ => true) true n 3 (([c0, c1, c2, c3, c4, c5].drop 3).take (Try.prog.cellsOf 3)) = some y3 := hi 3 _ rfl
      rw [e2] at q3
      have q4 : DataW.trod enc Try.prog W 0 (fun _ => true) true n 3 (([c0, c1, c2, c3, c4, c5].drop 4).take (Try.prog.cellsOf 3)) = some y4 := hi 4 _ rfl
      rw [e2] at q4
      have q5 : DataW.trod enc Try.prog W 0 (fun _ => true) true n 3 (([c0, c1, c2, c3, c4, c5].drop 5).take (Try.prog.cellsOf 3)) = some y5 := hi 5 _ rfl
      rw [e2] at q5
      obtain ⟨lv0, k0, g0, xx0, w0⟩ := open_list (el := CeFrame) (sz := 5) (by_ := 56) (d := y0.1) (p := y0.2) Try.underlying33 (by kernel_rfl) (by omega) (by kernel_rfl) (fun fuel cs d p h hz => open_frame_cells h hz) q0 z0
      simp at g0
      subst g0
      unfold reachBytes at w0
      obtain ⟨lv1, k1, g1, xx1, w1⟩ := open_list (el := CePanic) (sz := 7) (by_ := 72) (d := y1.1) (p := y1.2) Try.underlying34 (by kernel_rfl) (by omega) (by kernel_rfl) (fun fuel cs d p h hz => open_panic_cells h hz) q1 z1
      simp at g1
      subst g1
      unfold reachBytes at w1
      obtain ⟨k2, g2, xx2, w2⟩ := DataW.trod_int Try.underlying3 q2
      simp at g2
      subst g2
      obtain ⟨k3, g3, xx3, w3⟩ := DataW.trod_int Try.underlying3 q3
      simp at g3
      subst g3
      obtain ⟨k4, g4, xx4, w4⟩ := DataW.trod_int Try.underlying3 q4
      simp at g4
      subst g4
      obtain ⟨k5, g5, xx5, w5⟩ := DataW.trod_int Try.underlying3 q5
      simp at g5
      subst g5
      exact ⟨⟨k0, k1, k2, k3, k4, k5⟩, _, _, rfl, xx0, w0, xx1, w1, Go.bounds_i64 w2, Go.bounds_i64 w3, Go.bounds_i64 w4, Go.bounds_i64 w5⟩
set_option maxRecDepth 100000 in
theorem open_state (hval : Value.okWide Try.prog W .any base 36 v) (h : DataW.Trod enc Try.prog W 0 (fun _ => true) true 36 v d p) (hz : ∀ n ∈ DataW.weights Try.prog 36 d, n ≤ reachBytes) : ∃ m, RdState W v m := by
  obtain ⟨cs, rfl, hsz⟩ := okWide_struct Try.underlying36 hval
  obtain ⟨fuel, hf⟩ := h
  obtain ⟨m, u0, u1, h1, h2⟩ := open_state_cells hf hz
  refine ⟨m, u0, u1, ?_, h2⟩
  have : cs.toList = [u0, u1, .int .i64 m.next, .int .i64 m.serial, .int .i64 m.end_, .int .i64 m.status] := by simpa [Value.cells] using h1
  congr 1
  apply Array.toList_inj.1; rw [this]
/-- A slice of them that came in. -/
def RdStatesB (w : World) (v : Value) (l : List StateM) : Prop := RdL CeState 6 w v l ∧ l.length * 80 ≤ 140737488351232
set_option maxRecDepth 100000 in
theorem open_states (hval : Value.okWide Try.prog W .any base 28 v) (h : DataW.Trod enc Try.prog W 0 (fun _ => true) true 28 v d p) (hz : ∀ n ∈ DataW.weights Try.prog 28 d, n ≤ reachBytes) : ∃ l, RdStatesB W v l := by
  obtain ⟨a0, len, cap, rfl⟩ := okWide_slice Try.underlying28 hval
  obtain ⟨fuel, hf⟩ := h
  obtain ⟨v', l, h1, h2, h3⟩ := open_list (el := CeState) (sz := 6) (by_ := 80) Try.underlying28 (by kernel_rfl) (by omega) (by kernel_rfl) (fun fuel cs d p h hz => open_state_cells h hz) hf hz
  have : Value.slice a0 len cap = v' := (List.cons.inj h1).1
  subst this
  exact ⟨l, h2, by unfold reachBytes at h3; omega⟩
end
theorem elState : El Try.prog 28 36 (.agg #[.slice none 0 0, .slice none 0 0, .int .i64 0, .int .i64 0, .int .i64 0, .int .i64 0]) 6 80 := El.mk_ Try.underlying28 (by kernel_rfl) rfl (by omega)

end Go.Proofs.Ytiicdknmoakocaa
