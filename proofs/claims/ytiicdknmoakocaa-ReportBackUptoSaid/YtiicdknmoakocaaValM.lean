/-
  api.Value: what it reads as, and arguments of it opened. No condition.
-/
import Derived.Test.YtiicdknmoakocaaInts
import Derived.Test.YtiicdknmoakocaaList
import Derived.Lib.SmallJoins
namespace Go.Proofs.Ytiicdknmoakocaa
open Go.RowKit Go.ChangeShapes Go.WideShapes Go.Deep Go.Joins

structure ValM where
  k : Int
  n : Int
  s : ByteArray
  l : List Int

/-- The four cells of a Value. -/
def CeVal (w : World) (cs : List Value) (m : ValM) : Prop :=
  ∃ lv, cs = [.int .i64 m.k, .int .i64 m.n, .string m.s, lv] ∧ RdInts w lv m.l ∧ okI m.k ∧ okI m.n ∧ m.s.size ≤ 140737488351232 ∧ m.l.length * 8 ≤ 140737488351232
theorem CeVal.kp : ElKp CeVal := fun _ _ _ _ hk ⟨lv, h1, h2, h3⟩ => ⟨lv, h1, h2.kp hk, h3⟩
/-- A Value as a value. -/
def RdVal (w : World) (v : Value) (m : ValM) : Prop := ∃ lv, v = .agg #[.int .i64 m.k, .int .i64 m.n, .string m.s, lv] ∧ RdInts w lv m.l ∧ okI m.k ∧ okI m.n ∧ m.s.size ≤ 140737488351232 ∧ m.l.length * 8 ≤ 140737488351232
theorem RdVal.kp {w w' : World} {v : Value} {m : ValM} (h : RdVal w v m) (hk : Kp w w') : RdVal w' v m := by
  obtain ⟨lv, h1, h2, h3⟩ := h
  exact ⟨lv, h1, h2.kp hk, h3⟩
@[go_sem] theorem field_val0 (a b c d : Value) (w : World) : Sem.run Try.prog (Instr.field 25 (.agg #[a, b, c, d]) 0) w = .ok a w := by kernel_rfl
@[go_sem] theorem field_val1 (a b c d : Value) (w : World) : Sem.run Try.prog (Instr.field 25 (.agg #[a, b, c, d]) 1) w = .ok b w := by kernel_rfl
@[go_sem] theorem field_val2 (a b c d : Value) (w : World) : Sem.run Try.prog (Instr.field 25 (.agg #[a, b, c, d]) 2) w = .ok c w := by kernel_rfl
@[go_sem] theorem field_val3 (a b c d : Value) (w : World) : Sem.run Try.prog (Instr.field 25 (.agg #[a, b, c, d]) 3) w = .ok d w := by kernel_rfl
section
variable {H : Type} {enc : TypeId × Value → H} {W : World} {base : Nat} {v : Value} {d : DataW H} {p : List MemPlace}
set_option maxRecDepth 100000 in
theorem open_value_cells {fuel : Nat} {cs : List Value} (hf : DataW.trod enc Try.prog W 0 (fun _ => true) true fuel 25 cs = some (d, p)) (hz : ∀ n ∈ DataW.weights Try.prog 25 d, n ≤ reachBytes) : ∃ m, CeVal W cs m := by
  obtain ⟨xs, n, _, hx, hlen, hxl, hi⟩ := DataW.trod_struct Try.underlying25 hf
  simp only [Prod.mk.injEq] at hx
  obtain ⟨rfl, rfl⟩ := hx
  have hcl : cs.length = 4 := hlen.trans (by kernel_rfl)
  match cs, hcl with
  | [c0, c1, c2, c3], _ =>
    match xs, hxl with
    | [y0, y1, y2, y3], _ =>
      have hw := fun j f d hf hd => weights_struct (H := H) (ds := [y0.1, y1.1, y2.1, y3.1]) Try.underlying25 hz j f d hf hd
      have e1 : Try.prog.cellsOf 3 = 1 := by kernel_rfl
      have e2 : Try.prog.cellsOf 9 = 1 := by kernel_rfl
      have e3 : Try.prog.cellsOf 23 = 1 := by kernel_rfl
      have h0 : DataW.trod enc Try.prog W 0 (fun _ => true) true n 3 (([c0, c1, c2, c3].drop 0).take (Try.prog.cellsOf 3)) = some y0 := hi 0 _ rfl
      have h1 : DataW.trod enc Try.prog W 0 (fun _ => true) true n 3 (([c0, c1, c2, c3].drop 1).take (Try.prog.cellsOf 3)) = some y1 := hi 1 _ rfl
      have h2 : DataW.trod enc Try.prog W 0 (fun _ => true) true n 9 (([c0, c1, c2, c3].drop 2).take (Try.prog.cellsOf 9)) = some y2 := hi 2 _ rfl
      have h3 : DataW.trod enc Try.prog W 0 (fun _ => true) true n 23 (([c0, c1, c2, c3].drop 3).take (Try.prog.cellsOf 23)) = some y3 := hi 3 _ rfl
      have z2 := hw 2 _ y2.1 rfl rfl
      have z3 := hw 3 _ y3.1 rfl rfl
      rw [e1] at h0 h1; rw [e2] at h2; rw [e3] at h3
      obtain ⟨k0, g0, x0, w0⟩ := DataW.trod_int Try.underlying3 h0
      obtain ⟨k1, g1, x1, w1⟩ := DataW.trod_int Try.underlying3 h1
      obtain ⟨s2, g2, x2, w2⟩ := DataW.trod_string Try.underlying9 h2
      obtain ⟨lv, l3, g3, x3, w3⟩ := open_ints_cells (d := y3.1) (p := y3.2) h3 z3
      simp at g0 g1 g2 g3
      subst g0; subst g1; subst g2; subst g3
      refine ⟨⟨k0, k1, s2, l3⟩, _, rfl, x3, Go.bounds_i64 w0, Go.bounds_i64 w1, ?_, w3⟩
      have := z2 s2.data.toList.length (by rw [x2]; simp [DataW.weights])
      rw [Array.length_toList] at this; exact this
set_option maxRecDepth 100000 in
theorem open_value (hval : Value.okWide Try.prog W .any base 25 v) (h : DataW.Trod enc Try.prog W 0 (fun _ => true) true 25 v d p) (hz : ∀ n ∈ DataW.weights Try.prog 25 d, n ≤ reachBytes) : ∃ m, RdVal W v m := by
  obtain ⟨cs, rfl, hsz⟩ := okWide_struct Try.underlying25 hval
  obtain ⟨fuel, hf⟩ := h
  obtain ⟨m, lv, h1, h2⟩ := open_value_cells hf hz
  refine ⟨m, lv, ?_, h2⟩
  have : cs.toList = [.int .i64 m.k, .int .i64 m.n, .string m.s, lv] := by simpa [Value.cells] using h1
  congr 1
  apply Array.toList_inj.1; rw [this]
end
end Go.Proofs.Ytiicdknmoakocaa
