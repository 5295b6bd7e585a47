/-
  Struct types of the program: what they read as, arguments of them opened (written by structs.py). No condition.
-/
import Derived.Test.YtgonekmmbeedeaaInts
import Derived.Test.YtgonekmmbeedeaaOwnL
import Derived.Lib.SmallJoins
namespace Go.Proofs.Ytgonekmmbeedeaa
open Go.RowKit Go.ChangeShapes Go.WideShapes Go.Deep Go.Joins
set_option linter.unusedVariables false

/-! ### string -/
def CeStr (w : World) (cs : List Value) (s : ByteArray) : Prop := cs = [.string s] ∧ s.size ≤ 140737488351232
theorem CeStr.kp : ElKp CeStr := fun _ _ _ _ _ h => h
theorem elStrW : El Try.prog 23 9 (.string ⟨#[]⟩) 1 16 := El.mk_ Try.underlying23 (by kernel_rfl) rfl (by omega)
theorem at_str {w : World} {A : Option Addr} {n c : Nat} {l : List ByteArray} {i : Nat} {m : ByteArray} (h : RdL CeStr 1 w (.slice A n c) l) (hi : l[i]? = some m) : ∃ b off, A = some ⟨b, off, none⟩ ∧ b < w.heap.size ∧ w.cell? ⟨b, off + i, none⟩ = some (.string m) ∧ m.size ≤ 140737488351232 := by
  obtain ⟨b, off, cs, g1, g2, ⟨rfl, g3⟩, _, g4⟩ := h.at_ hi
  exact ⟨b, off, g1, g2, by have := g4 0 (by omega); simpa using this, g3⟩
section
variable {H : Type} {enc : TypeId × Value → H} {W : World} {d : DataW H} {p : List MemPlace}
theorem open_str_cells {fuel : Nat} {cs : List Value} (hf : DataW.trod enc Try.prog W 0 (fun _ => true) true fuel 9 cs = some (d, p)) (hz : ∀ n ∈ DataW.weights Try.prog 9 d, n ≤ reachBytes) : ∃ m, CeStr W cs m := by
  obtain ⟨s, g, x, _⟩ := DataW.trod_string Try.underlying9 hf
  cases x
  refine ⟨s, g, ?_⟩
  have := hz s.data.toList.length (by simp [DataW.weights])
  rw [Array.length_toList] at this; exact this
end
/-! ### api.Ins -/
structure InsM where
  op : Int
  a : Int
  b : Int
  c : Int
  d : Int
  e : Int
/-- The cells of one. -/
def CeIns (w : World) (cs : List Value) (m : InsM) : Prop := cs = [.int .i64 m.op, .int .i64 m.a, .int .i64 m.b, .int .i64 m.c, .int .i64 m.d, .int .i64 m.e] ∧ okI m.op ∧ okI m.a ∧ okI m.b ∧ okI m.c ∧ okI m.d ∧ okI m.e
theorem CeIns.kp : ElKp CeIns := fun _ _ _ _ hk ⟨h, h0, h1, h2, h3, h4, h5⟩ => ⟨h, h0, h1, h2, h3, h4, h5⟩
/-- As a value. -/
def RdIns (w : World) (v : Value) (m : InsM) : Prop := v = .agg #[.int .i64 m.op, .int .i64 m.a, .int .i64 m.b, .int .i64 m.c, .int .i64 m.d, .int .i64 m.e] ∧ okI m.op ∧ okI m.a ∧ okI m.b ∧ okI m.c ∧ okI m.d ∧ okI m.e
theorem RdIns.kp {w w' : World} {v : Value} {m : InsM} (h : RdIns w v m) (hk : Kp w w') : RdIns w' v m := by
  obtain ⟨h, h0, h1, h2, h3, h4, h5⟩ := h
  exact ⟨h, h0, h1, h2, h3, h4, h5⟩
/-- The element i: its cells. -/
theorem at_ins {w : World} {A : Option Addr} {n c : Nat} {l : List InsM} {i : Nat} {m : InsM} (h : RdL CeIns 6 w (.slice A n c) l) (hi : l[i]? = some m) : ∃ b off, A = some ⟨b, off, none⟩ ∧ b < w.heap.size ∧ w.cell? ⟨b, off + i * 6, none⟩ = some (.int .i64 m.op) ∧ w.cell? ⟨b, off + i * 6 + 1, none⟩ = some (.int .i64 m.a) ∧ w.cell? ⟨b, off + i * 6 + 2, none⟩ = some (.int .i64 m.b) ∧ w.cell? ⟨b, off + i * 6 + 3, none⟩ = some (.int .i64 m.c) ∧ w.cell? ⟨b, off + i * 6 + 4, none⟩ = some (.int .i64 m.d) ∧ w.cell? ⟨b, off + i * 6 + 5, none⟩ = some (.int .i64 m.e) ∧ okI m.op ∧ okI m.a ∧ okI m.b ∧ okI m.c ∧ okI m.d ∧ okI m.e := by
  obtain ⟨b, off, cs, g1, g2, g3, _, g4⟩ := h.at_ hi
  obtain ⟨rfl, h0, h1, h2, h3, h4, h5⟩ := g3
  exact ⟨b, off, g1, g2, g4 0 (by omega), g4 1 (by omega), g4 2 (by omega), g4 3 (by omega), g4 4 (by omega), g4 5 (by omega), h0, h1, h2, h3, h4, h5⟩
/-- A pointer to one. -/
def PtIns (w : World) (v : Value) (m : InsM) : Prop := ∃ b off, v = .pointer (some ⟨b, off, none⟩) ∧ b < w.heap.size ∧ w.cell? ⟨b, off, none⟩ = some (.int .i64 m.op) ∧ w.cell? ⟨b, off + 1, none⟩ = some (.int .i64 m.a) ∧ w.cell? ⟨b, off + 2, none⟩ = some (.int .i64 m.b) ∧ w.cell? ⟨b, off + 3, none⟩ = some (.int .i64 m.c) ∧ w.cell? ⟨b, off + 4, none⟩ = some (.int .i64 m.d) ∧ w.cell? ⟨b, off + 5, none⟩ = some (.int .i64 m.e) ∧ okI m.op ∧ okI m.a ∧ okI m.b ∧ okI m.c ∧ okI m.d ∧ okI m.e
theorem PtIns.kp {w w' : World} {v : Value} {m : InsM} (h : PtIns w v m) (hk : Kp w w') : PtIns w' v m := by
  obtain ⟨b, off, e, hb, g0, g1, g2, g3, g4, g5, h0, h1, h2, h3, h4, h5⟩ := h
  exact ⟨b, off, e, Nat.lt_of_lt_of_le hb hk.le, cell_kp hk hb g0, cell_kp hk hb g1, cell_kp hk hb g2, cell_kp hk hb g3, cell_kp hk hb g4, cell_kp hk hb g5, h0, h1, h2, h3, h4, h5⟩
theorem PtIns.rd {w : World} {b off : Nat} {m : InsM} (h : PtIns w (.pointer (some ⟨b, off, none⟩)) m) : ∃ _u : Unit, RdIns w (.agg #[.int .i64 m.op, .int .i64 m.a, .int .i64 m.b, .int .i64 m.c, .int .i64 m.d, .int .i64 m.e]) m ∧ w.cell? ⟨b, off, none⟩ = some (.int .i64 m.op) ∧ w.cell? ⟨b, off + 1, none⟩ = some (.int .i64 m.a) ∧ w.cell? ⟨b, off + 2, none⟩ = some (.int .i64 m.b) ∧ w.cell? ⟨b, off + 3, none⟩ = some (.int .i64 m.c) ∧ w.cell? ⟨b, off + 4, none⟩ = some (.int .i64 m.d) ∧ w.cell? ⟨b, off + 5, none⟩ = some (.int .i64 m.e) := by
  obtain ⟨b', off', e, hb, g0, g1, g2, g3, g4, g5, h0, h1, h2, h3, h4, h5⟩ := h
  cases e
  exact ⟨(), ⟨rfl, h0, h1, h2, h3, h4, h5⟩, g0, g1, g2, g3, g4, g5⟩
theorem pt_ins {w : World} {v : Value} {l : List InsM} {i : Nat} {m : InsM} (h : RdL CeIns 6 w v l) (hi : l[i]? = some m) : ∃ b off c, v = .slice (some ⟨b, off, none⟩) l.length c ∧ l.length ≤ c ∧ PtIns w (.pointer (some ⟨b, off + i * 6, none⟩)) m := by
  obtain ⟨A, c, rfl, hc⟩ := h.form
  obtain ⟨b, off, rfl, hb, g0, g1, g2, g3, g4, g5, h0, h1, h2, h3, h4, h5⟩ := at_ins h hi
  exact ⟨b, off, c, rfl, hc, b, off + i * 6, rfl, hb, g0, g1, g2, g3, g4, g5, h0, h1, h2, h3, h4, h5⟩
@[go_sem] theorem field_ins0 (x0 x1 x2 x3 x4 x5 : Value) (w : World) : Sem.run Try.prog (Instr.field 64 (.agg #[x0, x1, x2, x3, x4, x5]) 0) w = .ok (x0) w := by kernel_rfl
@[go_sem] theorem field_ins1 (x0 x1 x2 x3 x4 x5 : Value) (w : World) : Sem.run Try.prog (Instr.field 64 (.agg #[x0, x1, x2, x3, x4, x5]) 1) w = .ok (x1) w := by kernel_rfl
@[go_sem] theorem field_ins2 (x0 x1 x2 x3 x4 x5 : Value) (w : World) : Sem.run Try.prog (Instr.field 64 (.agg #[x0, x1, x2, x3, x4, x5]) 2) w = .ok (x2) w := by kernel_rfl
@[go_sem] theorem field_ins3 (x0 x1 x2 x3 x4 x5 : Value) (w : World) : Sem.run Try.prog (Instr.field 64 (.agg #[x0, x1, x2, x3, x4, x5]) 3) w = .ok (x3) w := by kernel_rfl
@[go_sem] theorem field_ins4 (x0 x1 x2 x3 x4 x5 : Value) (w : World) : Sem.run Try.prog (Instr.field 64 (.agg #[x0, x1, x2, x3, x4, x5]) 4) w = .ok (x4) w := by kernel_rfl
@[go_sem] theorem field_ins5 (x0 x1 x2 x3 x4 x5 : Value) (w : World) : Sem.run Try.prog (Instr.field 64 (.agg #[x0, x1, x2, x3, x4, x5]) 5) w = .ok (x5) w := by kernel_rfl
section
variable {H : Type} {enc : TypeId × Value → H} {W : World} {base : Nat} {v : Value} {d : DataW H} {p : List MemPlace}
set_option maxRecDepth 100000 in
theorem open_ins_cells {fuel : Nat} {cs : List Value} (hf : DataW.trod enc Try.prog W 0 (fun _ => true) true fuel 64 cs = some (d, p)) (hz : ∀ n ∈ DataW.weights Try.prog 64 d, n ≤ reachBytes) : ∃ m, CeIns W cs m := by
  obtain ⟨xs, n, _, hx, hlen, hxl, hi⟩ := DataW.trod_struct Try.underlying64 hf
  simp only [Prod.mk.injEq] at hx
  obtain ⟨rfl, rfl⟩ := hx
  have hcl : cs.length = 6 := hlen.trans (by kernel_rfl)
  match cs, hcl with
  | [c0, c1, c2, c3, c4, c5], _ =>
    match xs, hxl with
    | [y0, y1, y2, y3, y4, y5], _ =>
      have hw := fun j f d hf hd => weights_struct (H := H) (ds := [y0.1, y1.1, y2.1, y3.1, y4.1, y5.1]) Try.underlying64 hz j f d hf hd
      have e0 : Try.prog.cellsOf 3 = 1 := by kernel_rfl
      have q0 : DataW.trod enc Try.prog W 0 (fun _ => true) true n 3 (([c0, c1, c2, c3, c4, c5].drop 0).take (Try.prog.cellsOf 3)) = some y0 := hi 0 _ rfl
      rw [e0] at q0
      have q1 : DataW.trod enc Try.prog W 0 (fun _ => true) true n 3 (([c0, c1, c2, c3, c4, c5].drop 1).take (Try.prog.cellsOf 3)) = some y1 := hi 1 _ rfl
      rw [e0] at q1
      have q2 : DataW.trod enc Try.prog W 0 (fun _ => true) true n 3 (([c0, c1, c2, c3, c4, c5].drop 2).take (Try.prog.cellsOf 3)) = some y2 := hi 2 _ rfl
      rw [e0] at q2
      have q3 : DataW.trod enc Try.prog W 0 (fun _ => true) true n 3 (([c0, c1, c2, c3, c4, c5].drop 3).take (Try.prog.cellsOf 3)) = some y3 := hi 3 _ rfl
      rw [e0] at q3
      have q4 : DataW.trod enc Try.prog W 0 (fun _ => true) true n 3 (([c0, c1, c2, c3, c4, c5].drop 4).take (Try.prog.cellsOf 3)) = some y4 := hi 4 _ rfl
      rw [e0] at q4
      have q5 : DataW.trod enc Try.prog W 0 (fun _ => true) true n 3 (([c0, c1, c2, c3, c4, c5].drop 5).take (Try.prog.cellsOf 3)) = some y5 := hi 5 _ rfl
      rw [e0] at q5
      obtain ⟨k0, g0, xx0, w0⟩ := DataW.trod_int Try.underlying3 q0
      simp at g0
      subst g0
      obtain ⟨k1, g1, xx1, w1⟩ := DataW.trod_int Try.underlying3 q1
      simp at g1
      subst g1
      obtain ⟨k2, g2, xx2, w2⟩ := DataW.trod_int Try.underlying3 q2
      simp at g2
      subst g2
      obtain ⟨k3, g3, xx3, w3⟩ := DataW.trod_int Try.underlying3 q3
      simp at g3
      subst g3
      obtain ⟨k4, g4, xx4, w4⟩ := DataW.trod_int Try.underlying3 q4
      simp at g4
      subst g4
      obtain ⟨k5, g5, xx5, w5⟩ := DataW.trod_int Try.underlying3 q5
      simp at g5
      subst g5
      exact ⟨⟨k0, k1, k2, k3, k4, k5⟩, rfl, Go.bounds_i64 w0, Go.bounds_i64 w1, Go.bounds_i64 w2, Go.bounds_i64 w3, Go.bounds_i64 w4, Go.bounds_i64 w5⟩
set_option maxRecDepth 100000 in
theorem open_ins (hval : Value.okWide Try.prog W .any base 64 v) (h : DataW.Trod enc Try.prog W 0 (fun _ => true) true 64 v d p) (hz : ∀ n ∈ DataW.weights Try.prog 64 d, n ≤ reachBytes) : ∃ m, RdIns W v m := by
  obtain ⟨cs, rfl, hsz⟩ := okWide_struct Try.underlying64 hval
  obtain ⟨fuel, hf⟩ := h
  obtain ⟨m, h1, h2⟩ := open_ins_cells hf hz
  refine ⟨m, ?_, h2⟩
  have : cs.toList = [.int .i64 m.op, .int .i64 m.a, .int .i64 m.b, .int .i64 m.c, .int .i64 m.d, .int .i64 m.e] := by simpa [Value.cells] using h1
  congr 1
  apply Array.toList_inj.1; rw [this]
/-- A slice of them that came in. -/
def RdInssB (w : World) (v : Value) (l : List InsM) : Prop := RdL CeIns 6 w v l ∧ l.length * 48 ≤ 140737488351232
set_option maxRecDepth 100000 in
theorem open_inss (hval : Value.okWide Try.prog W .any base 43 v) (h : DataW.Trod enc Try.prog W 0 (fun _ => true) true 43 v d p) (hz : ∀ n ∈ DataW.weights Try.prog 43 d, n ≤ reachBytes) : ∃ l, RdInssB W v l := by
  obtain ⟨a0, len, cap, rfl⟩ := okWide_slice Try.underlying43 hval
  obtain ⟨fuel, hf⟩ := h
  obtain ⟨v', l, h1, h2, h3⟩ := open_list (el := CeIns) (sz := 6) (by_ := 48) Try.underlying43 (by kernel_rfl) (by omega) (by kernel_rfl) (fun fuel cs d p h hz => open_ins_cells h hz) hf hz
  have : Value.slice a0 len cap = v' := (List.cons.inj h1).1
  subst this
  exact ⟨l, h2, by unfold reachBytes at h3; omega⟩
end
theorem elIns : El Try.prog 43 64 (.agg #[.int .i64 0, .int .i64 0, .int .i64 0, .int .i64 0, .int .i64 0, .int .i64 0]) 6 48 := El.mk_ Try.underlying43 (by kernel_rfl) rfl (by omega)

/-! ### api.Fn -/
structure FnM where
  name : ByteArray
  params : Int
  slots : Int
  caps : Int
  ins : List InsM
/-- The cells of one. -/
def CeFn (w : World) (cs : List Value) (m : FnM) : Prop := ∃ lins, cs = [.string m.name, .int .i64 m.params, .int .i64 m.slots, .int .i64 m.caps, lins] ∧ m.name.size ≤ 140737488351232 ∧ okI m.params ∧ okI m.slots ∧ okI m.caps ∧ RdL CeIns 6 w lins m.ins ∧ m.ins.length * 48 ≤ 140737488351232
theorem CeFn.kp : ElKp CeFn := fun _ _ _ _ hk ⟨lins, h, h0, h1, h2, h3, h4, h5⟩ => ⟨lins, h, h0, h1, h2, h3, h4.kp CeIns.kp hk, h5⟩
/-- As a value. -/
def RdFn (w : World) (v : Value) (m : FnM) : Prop := ∃ lins, v = .agg #[.string m.name, .int .i64 m.params, .int .i64 m.slots, .int .i64 m.caps, lins] ∧ m.name.size ≤ 140737488351232 ∧ okI m.params ∧ okI m.slots ∧ okI m.caps ∧ RdL CeIns 6 w lins m.ins ∧ m.ins.length * 48 ≤ 140737488351232
theorem RdFn.kp {w w' : World} {v : Value} {m : FnM} (h : RdFn w v m) (hk : Kp w w') : RdFn w' v m := by
  obtain ⟨lins, h, h0, h1, h2, h3, h4, h5⟩ := h
  exact ⟨lins, h, h0, h1, h2, h3, h4.kp CeIns.kp hk, h5⟩
/-- The element i: its cells. -/
theorem at_fn {w : World} {A : Option Addr} {n c : Nat} {l : List FnM} {i : Nat} {m : FnM} (h : RdL CeFn 5 w (.slice A n c) l) (hi : l[i]? = some m) : ∃ b off, A = some ⟨b, off, none⟩ ∧ b < w.heap.size ∧ ∃ lins, w.cell? ⟨b, off + i * 5, none⟩ = some (.string m.name) ∧ w.cell? ⟨b, off + i * 5 + 1, none⟩ = some (.int .i64 m.params) ∧ w.cell? ⟨b, off + i * 5 + 2, none⟩ = some (.int .i64 m.slots) ∧ w.cell? ⟨b, off + i * 5 + 3, none⟩ = some (.int .i64 m.caps) ∧ w.cell? ⟨b, off + i * 5 + 4, none⟩ = some (lins) ∧ m.name.size ≤ 140737488351232 ∧ okI m.params ∧ okI m.slots ∧ okI m.caps ∧ RdL CeIns 6 w lins m.ins ∧ m.ins.length * 48 ≤ 140737488351232 := by
  obtain ⟨b, off, cs, g1, g2, g3, _, g4⟩ := h.at_ hi
  obtain ⟨lins, rfl, h0, h1, h2, h3, h4, h5⟩ := g3
  exact ⟨b, off, g1, g2, lins, g4 0 (by omega), g4 1 (by omega), g4 2 (by omega), g4 3 (by omega), g4 4 (by omega), h0, h1, h2, h3, h4, h5⟩
/-- A pointer to one. -/
def PtFn (w : World) (v : Value) (m : FnM) : Prop := ∃ b off lins, v = .pointer (some ⟨b, off, none⟩) ∧ b < w.heap.size ∧ w.cell? ⟨b, off, none⟩ = some (.string m.name) ∧ w.cell? ⟨b, off + 1, none⟩ = some (.int .i64 m.params) ∧ w.cell? ⟨b, off + 2, none⟩ = some (.int .i64 m.slots) ∧ w.cell? ⟨b, off + 3, none⟩ = some (.int .i64 m.caps) ∧ w.cell? ⟨b, off + 4, none⟩ = some (lins) ∧ m.name.size ≤ 140737488351232 ∧ okI m.params ∧ okI m.slots ∧ okI m.caps ∧ RdL CeIns 6 w lins m.ins ∧ m.ins.length * 48 ≤ 140737488351232
theorem PtFn.kp {w w' : World} {v : Value} {m : FnM} (h : PtFn w v m) (hk : Kp w w') : PtFn w' v m := by
  obtain ⟨b, off, lins, e, hb, g0, g1, g2, g3, g4, h0, h1, h2, h3, h4, h5⟩ := h
  exact ⟨b, off, lins, e, Nat.lt_of_lt_of_le hb hk.le, cell_kp hk hb g0, cell_kp hk hb g1, cell_kp hk hb g2, cell_kp hk hb g3, cell_kp hk hb g4, h0, h1, h2, h3, h4.kp CeIns.kp hk, h5⟩
theorem PtFn.rd {w : World} {b off : Nat} {m : FnM} (h : PtFn w (.pointer (some ⟨b, off, none⟩)) m) : ∃ lins, RdFn w (.agg #[.string m.name, .int .i64 m.params, .int .i64 m.slots, .int .i64 m.caps, lins]) m ∧ w.cell? ⟨b, off, none⟩ = some (.string m.name) ∧ w.cell? ⟨b, off + 1, none⟩ = some (.int .i64 m.params) ∧ w.cell? ⟨b, off + 2, none⟩ = some (.int .i64 m.slots) ∧ w.cell? ⟨b, off + 3, none⟩ = some (.int .i64 m.caps) ∧ w.cell? ⟨b, off + 4, none⟩ = some (lins) := by
  obtain ⟨b', off', lins, e, hb, g0, g1, g2, g3, g4, h0, h1, h2, h3, h4, h5⟩ := h
  cases e
  exact ⟨lins, ⟨lins, rfl, h0, h1, h2, h3, h4, h5⟩, g0, g1, g2, g3, g4⟩
theorem pt_fn {w : World} {v : Value} {l : List FnM} {i : Nat} {m : FnM} (h : RdL CeFn 5 w v l) (hi : l[i]? = some m) : ∃ b off c, v = .slice (some ⟨b, off, none⟩) l.length c ∧ l.length ≤ c ∧ PtFn w (.pointer (some ⟨b, off + i * 5, none⟩)) m := by
  obtain ⟨A, c, rfl, hc⟩ := h.form
  obtain ⟨b, off, rfl, hb, lins, g0, g1, g2, g3, g4, h0, h1, h2, h3, h4, h5⟩ := at_fn h hi
  exact ⟨b, off, c, rfl, hc, b, off + i * 5, lins, rfl, hb, g0, g1, g2, g3, g4, h0, h1, h2, h3, h4, h5⟩
@[go_sem] theorem field_fn0 (x0 x1 x2 x3 x4 : Value) (w : World) : Sem.run Try.prog (Instr.field 45 (.agg #[x0, x1, x2, x3, x4]) 0) w = .ok (x0) w := by kernel_rfl
@[go_sem] theorem field_fn1 (x0 x1 x2 x3 x4 : Value) (w : World) : Sem.run Try.prog (Instr.field 45 (.agg #[x0, x1, x2, x3, x4]) 1) w = .ok (x1) w := by kernel_rfl
@[go_sem] theorem field_fn2 (x0 x1 x2 x3 x4 : Value) (w : World) : Sem.run Try.prog (Instr.field 45 (.agg #[x0, x1, x2, x3, x4]) 2) w = .ok (x2) w := by kernel_rfl
@[go_sem] theorem field_fn3 (x0 x1 x2 x3 x4 : Value) (w : World) : Sem.run Try.prog (Instr.field 45 (.agg #[x0, x1, x2, x3, x4]) 3) w = .ok (x3) w := by kernel_rfl
@[go_sem] theorem field_fn4 (x0 x1 x2 x3 x4 : Value) (w : World) : Sem.run Try.prog (Instr.field 45 (.agg #[x0, x1, x2, x3, x4]) 4) w = .ok (x4) w := by kernel_rfl
section
variable {H : Type} {enc : TypeId × Value → H} {W : World} {base : Nat} {v : Value} {d : DataW H} {p : List MemPlace}
set_option maxRecDepth 100000 in
theorem open_fn_cells {fuel : Nat} {cs : List Value} (hf : DataW.trod enc Try.prog W 0 (fun _ => true) true fuel 45 cs = some (d, p)) (hz : ∀ n ∈ DataW.weights Try.prog 45 d, n ≤ reachBytes) : ∃ m, CeFn W cs m := by
  obtain ⟨xs, n, _, hx, hlen, hxl, hi⟩ := DataW.trod_struct Try.underlying45 hf
  simp only [Prod.mk.injEq] at hx
  obtain ⟨rfl, rfl⟩ := hx
  have hcl : cs.length = 5 := hlen.trans (by kernel_rfl)
  match cs, hcl with
  | [c0, c1, c2, c3, c4], _ =>
    match xs, hxl with
    | [y0, y1, y2, y3, y4], _ =>
      have hw := fun j f d hf hd => weights_struct (H := H) (ds := [y0.1, y1.1, y2.1, y3.1, y4.1]) Try.underlying45 hz j f d hf hd
      have e0 : Try.prog.cellsOf 9 = 1 := by kernel_rfl
      have e1 : Try.prog.cellsOf 3 = 1 := by kernel_rfl
      have e2 : Try.prog.cellsOf 43 = 1 := by kernel_rfl
      have q0 : DataW.trod enc Try.prog W 0 (fun _ => true) true n 9 (([c0, c1, c2, c3, c4].drop 0).take (Try.prog.cellsOf 9)) = some y0 := hi 0 _ rfl
      rw [e0] at q0
      have z0 := hw 0 _ y0.1 rfl rfl
      have q1 : DataW.trod enc Try.prog W 0 (fun _ => true) true n 3 (([c0, c1, c2, c3, c4].drop 1).take (Try.prog.cellsOf 3)) = some y1 := hi 1 _ rfl
      rw [e1] at q1
      have q2 : DataW.trod enc Try.prog W 0 (fun _ => true) true n 3 (([c0, c1, c2, c3, c4].drop 2).take (Try.prog.cellsOf 3)) = some y2 := hi 2 _ rfl
      rw [e1] at q2
      have q3 : DataW.trod enc Try.prog W 0 (fun _ => true) true n 3 (([c0, c1, c2, c3, c4].drop 3).take (Try.prog.cellsOf 3)) = some y3 := hi 3 _ rfl
      rw [e1] at q3
      have q4 : DataW.trod enc Try.prog W 0 (fun _ => true) true n 43 (([c0, c1, c2, c3, c4].drop 4).take (Try.prog.cellsOf 43)) = some y4 := hi 4 _ rfl
      rw [e2] at q4
      have z4 := hw 4 _ y4.1 rfl rfl
      obtain ⟨k0, g0, xx0, w0⟩ := DataW.trod_string Try.underlying9 q0
      simp at g0
      subst g0
      have s0 : k0.size ≤ 140737488351232 := by
        have := z0 k0.data.toList.length (by rw [xx0]; simp [DataW.weights])
        rw [Array.length_toList] at this; exact this
      obtain ⟨k1, g1, xx1, w1⟩ := DataW.trod_int Try.underlying3 q1
      simp at g1
      subst g1
      obtain ⟨k2, g2, xx2, w2⟩ := DataW.trod_int Try.underlying3 q2
      simp at g2
      subst g2
      obtain ⟨k3, g3, xx3, w3⟩ := DataW.trod_int Try.underlying3 q3
      simp at g3
      subst g3
      obtain ⟨lv4, k4, g4, xx4, w4⟩ := open_list (el := CeIns) (sz := 6) (by_ := 48) (d := y4.1) (p := y4.2) Try.underlying43 (by kernel_rfl) (by omega) (by kernel_rfl) (fun fuel cs d p h hz => open_ins_cells h hz) q4 z4
      simp at g4
      subst g4
      unfold reachBytes at w4
      exact ⟨⟨k0, k1, k2, k3, k4⟩, _, rfl, s0, Go.bounds_i64 w1, Go.bounds_i64 w2, Go.bounds_i64 w3, xx4, w4⟩
set_option maxRecDepth 100000 in
theorem open_fn (hval : Value.okWide Try.prog W .any base 45 v) (h : DataW.Trod enc Try.prog W 0 (fun _ => true) true 45 v d p) (hz : ∀ n ∈ DataW.weights Try.prog 45 d, n ≤ reachBytes) : ∃ m, RdFn W v m := by
  obtain ⟨cs, rfl, hsz⟩ := okWide_struct Try.underlying45 hval
  obtain ⟨fuel, hf⟩ := h
  obtain ⟨m, u0, h1, h2⟩ := open_fn_cells hf hz
  refine ⟨m, u0, ?_, h2⟩
  have : cs.toList = [.string m.name, .int .i64 m.params, .int .i64 m.slots, .int .i64 m.caps, u0] := by simpa [Value.cells] using h1
  congr 1
  apply Array.toList_inj.1; rw [this]
/-- A slice of them that came in. -/
def RdFnsB (w : World) (v : Value) (l : List FnM) : Prop := RdL CeFn 5 w v l ∧ l.length * 64 ≤ 140737488351232
set_option maxRecDepth 100000 in
theorem open_fns (hval : Value.okWide Try.prog W .any base 22 v) (h : DataW.Trod enc Try.prog W 0 (fun _ => true) true 22 v d p) (hz : ∀ n ∈ DataW.weights Try.prog 22 d, n ≤ reachBytes) : ∃ l, RdFnsB W v l := by
  obtain ⟨a0, len, cap, rfl⟩ := okWide_slice Try.underlying22 hval
  obtain ⟨fuel, hf⟩ := h
  obtain ⟨v', l, h1, h2, h3⟩ := open_list (el := CeFn) (sz := 5) (by_ := 64) Try.underlying22 (by kernel_rfl) (by omega) (by kernel_rfl) (fun fuel cs d p h hz => open_fn_cells h hz) hf hz
  have : Value.slice a0 len cap = v' := (List.cons.inj h1).1
  subst this
  exact ⟨l, h2, by unfold reachBytes at h3; omega⟩
end
theorem elFn : El Try.prog 22 45 (.agg #[.string ⟨#[]⟩, .int .i64 0, .int .i64 0, .int .i64 0, .slice none 0 0]) 5 64 := El.mk_ Try.underlying22 (by kernel_rfl) rfl (by omega)

/-! ### api.Code -/
structure CodeM where
  funcs : List FnM
  texts : List ByteArray
/-- The cells of one. -/
def CeCode (w : World) (cs : List Value) (m : CodeM) : Prop := ∃ lfuncs ltexts, cs = [lfuncs, ltexts] ∧ RdL CeFn 5 w lfuncs m.funcs ∧ m.funcs.length * 64 ≤ 140737488351232 ∧ RdL CeStr 1 w ltexts m.texts ∧ m.texts.length * 16 ≤ 140737488351232
theorem CeCode.kp : ElKp CeCode := fun _ _ _ _ hk ⟨lfuncs, ltexts, h, h0, h1, h2, h3⟩ => ⟨lfuncs, ltexts, h, h0.kp CeFn.kp hk, h1, h2.kp CeStr.kp hk, h3⟩
/-- As a value. -/
def RdCode (w : World) (v : Value) (m : CodeM) : Prop := ∃ lfuncs ltexts, v = .agg #[lfuncs, ltexts] ∧ RdL CeFn 5 w lfuncs m.funcs ∧ m.funcs.length * 64 ≤ 140737488351232 ∧ RdL CeStr 1 w ltexts m.texts ∧ m.texts.length * 16 ≤ 140737488351232
theorem RdCode.kp {w w' : World} {v : Value} {m : CodeM} (h : RdCode w v m) (hk : Kp w w') : RdCode w' v m := by
  obtain ⟨lfuncs, ltexts, h, h0, h1, h2, h3⟩ := h
  exact ⟨lfuncs, ltexts, h, h0.kp CeFn.kp hk, h1, h2.kp CeStr.kp hk, h3⟩
/-- The element i: its cells. -/
theorem at_code {w : World} {A : Option Addr} {n c : Nat} {l : List CodeM} {i : Nat} {m : CodeM} (h : RdL CeCode 2 w (.slice A n c) l) (hi : l[i]? = some m) : ∃ b off, A = some ⟨b, off, none⟩ ∧ b < w.heap.size ∧ ∃ lfuncs ltexts, w.cell? ⟨b, off + i * 2, none⟩ = some (lfuncs) ∧ w.cell? ⟨b, off + i * 2 + 1, none⟩ = some (ltexts) ∧ RdL CeFn 5 w lfuncs m.funcs ∧ m.funcs.length * 64 ≤ 140737488351232 ∧ RdL CeStr 1 w ltexts m.texts ∧ m.texts.length * 16 ≤ 140737488351232 := by
  obtain ⟨b, off, cs, g1, g2, g3, _, g4⟩ := h.at_ hi
  obtain ⟨lfuncs, ltexts, rfl, h0, h1, h2, h3⟩ := g3
  exact ⟨b, off, g1, g2, lfuncs, ltexts, g4 0 (by omega), g4 1 (by omega), h0, h1, h2, h3⟩
/-- A pointer to one. -/
def PtCode (w : World) (v : Value) (m : CodeM) : Prop := ∃ b off lfuncs ltexts, v = .pointer (some ⟨b, off, none⟩) ∧ b < w.heap.size ∧ w.cell? ⟨b, off, none⟩ = some (lfuncs) ∧ w.cell? ⟨b, off + 1, none⟩ = some (ltexts) ∧ RdL CeFn 5 w lfuncs m.funcs ∧ m.funcs.length * 64 ≤ 140737488351232 ∧ RdL CeStr 1 w ltexts m.texts ∧ m.texts.length * 16 ≤ 140737488351232
theorem PtCode.kp {w w' : World} {v : Value} {m : CodeM} (h : PtCode w v m) (hk : Kp w w') : PtCode w' v m := by
  obtain ⟨b, off, lfuncs, ltexts, e, hb, g0, g1, h0, h1, h2, h3⟩ := h
  exact ⟨b, off, lfuncs, ltexts, e, Nat.lt_of_lt_of_le hb hk.le, cell_kp hk hb g0, cell_kp hk hb g1, h0.kp CeFn.kp hk, h1, h2.kp CeStr.kp hk, h3⟩
theorem PtCode.rd {w : World} {b off : Nat} {m : CodeM} (h : PtCode w (.pointer (some ⟨b, off, none⟩)) m) : ∃ lfuncs ltexts, RdCode w (.agg #[lfuncs, ltexts]) m ∧ w.cell? ⟨b, off, none⟩ = some (lfuncs) ∧ w.cell? ⟨b, off + 1, none⟩ = some (ltexts) := by
  obtain ⟨b', off', lfuncs, ltexts, e, hb, g0, g1, h0, h1, h2, h3⟩ := h
  cases e
  exact ⟨lfuncs, ltexts, ⟨lfuncs, ltexts, rfl, h0, h1, h2, h3⟩, g0, g1⟩
theorem pt_code {w : World} {v : Value} {l : List CodeM} {i : Nat} {m : CodeM} (h : RdL CeCode 2 w v l) (hi : l[i]? = some m) : ∃ b off c, v = .slice (some ⟨b, off, none⟩) l.length c ∧ l.length ≤ c ∧ PtCode w (.pointer (some ⟨b, off + i * 2, none⟩)) m := by
  obtain ⟨A, c, rfl, hc⟩ := h.form
  obtain ⟨b, off, rfl, hb, lfuncs, ltexts, g0, g1, h0, h1, h2, h3⟩ := at_code h hi
  exact ⟨b, off, c, rfl, hc, b, off + i * 2, lfuncs, ltexts, rfl, hb, g0, g1, h0, h1, h2, h3⟩
@[go_sem] theorem field_code0 (x0 x1 : Value) (w : World) : Sem.run Try.prog (Instr.field 25 (.agg #[x0, x1]) 0) w = .ok (x0) w := by kernel_rfl
@[go_sem] theorem field_code1 (x0 x1 : Value) (w : World) : Sem.run Try.prog (Instr.field 25 (.agg #[x0, x1]) 1) w = .ok (x1) w := by kernel_rfl
section
variable {H : Type} {enc : TypeId × Value → H} {W : World} {base : Nat} {v : Value} {d : DataW H} {p : List MemPlace}
set_option maxRecDepth 100000 in
theorem open_code_cells {fuel : Nat} {cs : List Value} (hf : DataW.trod enc Try.prog W 0 (fun _ => true) true fuel 25 cs = some (d, p)) (hz : ∀ n ∈ DataW.weights Try.prog 25 d, n ≤ reachBytes) : ∃ m, CeCode W cs m := by
  obtain ⟨xs, n, _, hx, hlen, hxl, hi⟩ := DataW.trod_struct Try.underlying25 hf
  simp only [Prod.mk.injEq] at hx
  obtain ⟨rfl, rfl⟩ := hx
  have hcl : cs.length = 2 := hlen.trans (by kernel_rfl)
  match cs, hcl with
  | [c0, c1], _ =>
    match xs, hxl with
    | [y0, y1], _ =>
      have hw := fun j f d hf hd => weights_struct (H := H) (ds := [y0.1, y1.1]) Try.underlying25 hz j f d hf hd
      have e0 : Try.prog.cellsOf 22 = 1 := by kernel_rfl
      have e1 : Try.prog.cellsOf 23 = 1 := by kernel_rfl
      have q0 : DataW.trod enc Try.prog W 0 (fun _ => true) true n 22 (([c0, c1].drop 0).take (Try.prog.cellsOf 22)) = some y0 := hi 0 _ rfl
      rw [e0] at q0
      have z0 := hw 0 _ y0.1 rfl rfl
      have q1 : DataW.trod enc Try.prog W 0 (fun _ => true) true n 23 (([c0, c1].drop 1).take (Try.prog.cellsOf 23)) = some y1 := hi 1 _ rfl
      rw [e1] at q1
      have z1 := hw 1 _ y1.1 rfl rfl
      obtain ⟨lv0, k0, g0, xx0, w0⟩ := open_list (el := CeFn) (sz := 5) (by_ := 64) (d := y0.1) (p := y0.2) Try.underlying22 (by kernel_rfl) (by omega) (by kernel_rfl) (fun fuel cs d p h hz => open_fn_cells h hz) q0 z0
      simp at g0
      subst g0
      unfold reachBytes at w0
      obtain ⟨lv1, k1, g1, xx1, w1⟩ := open_list (el := CeStr) (sz := 1) (by_ := 16) (d := y1.1) (p := y1.2) Try.underlying23 (by kernel_rfl) (by omega) (by kernel_rfl) (fun fuel cs d p h hz => open_str_cells h hz) q1 z1
      simp at g1
      subst g1
      unfold reachBytes at w1
      exact ⟨⟨k0, k1⟩, _, _, rfl, xx0, w0, xx1, w1⟩
set_option maxRecDepth 100000 in
theorem open_code (hval : Value.okWide Try.prog W .any base 25 v) (h : DataW.Trod enc Try.prog W 0 (fun _ => true) true 25 v d p) (hz : ∀ n ∈ DataW.weights Try.prog 25 d, n ≤ reachBytes) : ∃ m, RdCode W v m := by
  obtain ⟨cs, rfl, hsz⟩ := okWide_struct Try.underlying25 hval
  obtain ⟨fuel, hf⟩ := h
  obtain ⟨m, u0, u1, h1, h2⟩ := open_code_cells hf hz
  refine ⟨m, u0, u1, ?_, h2⟩
  have : cs.toList = [u0, u1] := by simpa [Value.cells] using h1
  congr 1
  apply Array.toList_inj.1; rw [this]
end
end Go.Proofs.Ytgonekmmbeedeaa
