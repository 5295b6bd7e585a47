/-
  Struct types of the program: what they read as, arguments of them opened (written by structs.py). No condition.
-/
import Derived.Test.YtmcidhjcimjeiaaInts
import Derived.Test.YtmcidhjcimjeiaaOwnL
import Derived.Lib.SmallJoins
namespace Go.Proofs.Ytmcidhjcimjeiaa
open Go.RowKit Go.ChangeShapes Go.WideShapes Go.Deep Go.Joins

/-! ### api.Call -/
structure CallM where
  site : Int
  fn : Int
  args : List Int
/-- The cells of one. -/
def CeCall (w : World) (cs : List Value) (m : CallM) : Prop := ∃ largs, cs = [.int .i64 m.site, .int .i64 m.fn, largs] ∧ okI m.site ∧ okI m.fn ∧ RdInts w largs m.args ∧ m.args.length * 8 ≤ 140737488351232
theorem CeCall.kp : ElKp CeCall := fun _ _ _ _ hk ⟨largs, h, h0, h1, h2, h3⟩ => ⟨largs, h, h0, h1, h2.kp hk, h3⟩
/-- As a value. -/
def RdCall (w : World) (v : Value) (m : CallM) : Prop := ∃ largs, v = .agg #[.int .i64 m.site, .int .i64 m.fn, largs] ∧ okI m.site ∧ okI m.fn ∧ RdInts w largs m.args ∧ m.args.length * 8 ≤ 140737488351232
theorem RdCall.kp {w w' : World} {v : Value} {m : CallM} (h : RdCall w v m) (hk : Kp w w') : RdCall w' v m := by
  obtain ⟨largs, h, h0, h1, h2, h3⟩ := h
  exact ⟨largs, h, h0, h1, h2.kp hk, h3⟩
/-- The element i: its cells. -/
theorem at_call {w : World} {A : Option Addr} {n c : Nat} {l : List CallM} {i : Nat} {m : CallM} (h : RdL CeCall 3 w (.slice A n c) l) (hi : l[i]? = some m) : ∃ b off, A = some ⟨b, off, none⟩ ∧ b < w.heap.size ∧ ∃ largs, w.cell? ⟨b, off + i * 3, none⟩ = some (.int .i64 m.site) ∧ w.cell? ⟨b, off + i * 3 + 1, none⟩ = some (.int .i64 m.fn) ∧ w.cell? ⟨b, off + i * 3 + 2, none⟩ = some (largs) ∧ okI m.site ∧ okI m.fn ∧ RdInts w largs m.args ∧ m.args.length * 8 ≤ 140737488351232 := by
  obtain ⟨b, off, cs, g1, g2, g3, _, g4⟩ := h.at_ hi
  obtain ⟨largs, rfl, h0, h1, h2, h3⟩ := g3
  exact ⟨b, off, g1, g2, largs, g4 0 (by omega), g4 1 (by omega), g4 2 (by omega), h0, h1, h2, h3⟩
/-- A pointer to one. -/
def PtCall (w : World) (v : Value) (m : CallM) : Prop := ∃ b off largs, v = .pointer (some ⟨b, off, none⟩) ∧ b < w.heap.size ∧ w.cell? ⟨b, off, none⟩ = some (.int .i64 m.site) ∧ w.cell? ⟨b, off + 1, none⟩ = some (.int .i64 m.fn) ∧ w.cell? ⟨b, off + 2, none⟩ = some (largs) ∧ okI m.site ∧ okI m.fn ∧ RdInts w largs m.args ∧ m.args.length * 8 ≤ 140737488351232
theorem PtCall.kp {w w' : World} {v : Value} {m : CallM} (h : PtCall w v m) (hk : Kp w w') : PtCall w' v m := by
  obtain ⟨b, off, largs, e, hb, g0, g1, g2, h0, h1, h2, h3⟩ := h
  exact ⟨b, off, largs, e, Nat.lt_of_lt_of_le hb hk.le, cell_kp hk hb g0, cell_kp hk hb g1, cell_kp hk hb g2, h0, h1, h2.kp hk, h3⟩
theorem PtCall.rd {w : World} {b off : Nat} {m : CallM} (h : PtCall w (.pointer (some ⟨b, off, none⟩)) m) : ∃ largs, RdCall w (.agg #[.int .i64 m.site, .int .i64 m.fn, largs]) m ∧ w.cell? ⟨b, off, none⟩ = some (.int .i64 m.site) ∧ w.cell? ⟨b, off + 1, none⟩ = some (.int .i64 m.fn) ∧ w.cell? ⟨b, off + 2, none⟩ = some (largs) := by
  obtain ⟨b', off', largs, e, hb, g0, g1, g2, h0, h1, h2, h3⟩ := h
  cases e
  exact ⟨largs, ⟨largs, rfl, h0, h1, h2, h3⟩, g0, g1, g2⟩
theorem pt_call {w : World} {v : Value} {l : List CallM} {i : Nat} {m : CallM} (h : RdL CeCall 3 w v l) (hi : l[i]? = some m) : ∃ b off c, v = .slice (some ⟨b, off, none⟩) l.length c ∧ l.length ≤ c ∧ PtCall w (.pointer (some ⟨b, off + i * 3, none⟩)) m := by
  obtain ⟨A, c, rfl, hc⟩ := h.form
  obtain ⟨b, off, rfl, hb, largs, g0, g1, g2, h0, h1, h2, h3⟩ := at_call h hi
  exact ⟨b, off, c, rfl, hc, b, off + i * 3, largs, rfl, hb, g0, g1, g2, h0, h1, h2, h3⟩
@[go_sem] theorem field_call0 (x0 x1 x2 : Value) (w : World) : Sem.run Try.prog (Instr.field 25 (.agg #[x0, x1, x2]) 0) w = .ok (x0) w := by kernel_rfl
@[go_sem] theorem field_call1 (x0 x1 x2 : Value) (w : World) : Sem.run Try.prog (Instr.field 25 (.agg #[x0, x1, x2]) 1) w = .ok (x1) w := by kernel_rfl
@[go_sem] theorem field_call2 (x0 x1 x2 : Value) (w : World) : Sem.run Try.prog (Instr.field 25 (.agg #[x0, x1, x2]) 2) w = .ok (x2) w := by kernel_rfl
section
variable {H : Type} {enc : TypeId × Value → H} {W : World} {base : Nat} {v : Value} {d : DataW H} {p : List MemPlace}
set_option maxRecDepth 100000 in
theorem open_call_cells {fuel : Nat} {cs : List Value} (hf : DataW.trod enc Try.prog W 0 (fun _ => true) true fuel 25 cs = some (d, p)) (hz : ∀ n ∈ DataW.weights Try.prog 25 d, n ≤ reachBytes) : ∃ m, CeCall W cs m := by
  obtain ⟨xs, n, _, hx, hlen, hxl, hi⟩ := DataW.trod_struct Try.underlying25 hf
  simp only [Prod.mk.injEq] at hx
  obtain ⟨rfl, rfl⟩ := hx
  have hcl : cs.length = 3 := hlen.trans (by kernel_rfl)
  match cs, hcl with
  | [c0, c1, c2], _ =>
    match xs, hxl with
    | [y0, y1, y2], _ =>
      have hw := fun j f d hf hd => weights_struct (H := H) (ds := [y0.1, y1.1, y2.1]) Try.underlying25 hz j f d hf hd
      have e0 : Try.prog.cellsOf 3 = 1 := by kernel_rfl
      have e1 : Try.prog.cellsOf 23 = 1 := by kernel_rfl
      have q0 : DataW.trod enc Try.prog W 0 (fun _ => true) true n 3 (([c0, c1, c2].drop 0).take (Try.prog.cellsOf 3)) = some y0 := hi 0 _ rfl
      rw [e0] at q0
      have q1 : DataW.trod enc Try.prog W 0 (fun _ => true) true n 3 (([c0, c1, c2].drop 1).take (Try.prog.cellsOf 3)) = some y1 := hi 1 _ rfl
      rw [e0] at q1
      have q2 : DataW.trod enc Try.prog W 0 (fun _ => true) true n 23 (([c0, c1, c2].drop 2).take (Try.prog.cellsOf 23)) = some y2 := hi 2 _ rfl
      rw [e1] at q2
      have z2 := hw 2 _ y2.1 rfl rfl
      obtain ⟨k0, g0, xx0, w0⟩ := DataW.trod_int Try.underlying3 q0
      simp at g0
      subst g0
      obtain ⟨k1, g1, xx1, w1⟩ := DataW.trod_int Try.underlying3 q1
      simp at g1
      subst g1
      obtain ⟨lv2, k2, g2, xx2, w2⟩ := open_ints_cells (d := y2.1) (p := y2.2) q2 z2
      simp at g2
      subst g2
      exact ⟨⟨k0, k1, k2⟩, _, rfl, Go.bounds_i64 w0, Go.bounds_i64 w1, xx2, w2⟩
set_option maxRecDepth 100000 in
theorem open_call (hval : Value.okWide Try.prog W .any base 25 v) (h : DataW.Trod enc Try.prog W 0 (fun _ => true) true 25 v d p) (hz : ∀ n ∈ DataW.weights Try.prog 25 d, n ≤ reachBytes) : ∃ m, RdCall W v m := by
  obtain ⟨cs, rfl, hsz⟩ := okWide_struct Try.underlying25 hval
  obtain ⟨fuel, hf⟩ := h
  obtain ⟨m, u0, h1, h2⟩ := open_call_cells hf hz
  refine ⟨m, u0, ?_, h2⟩
  have : cs.toList = [.int .i64 m.site, .int .i64 m.fn, u0] := by simpa [Value.cells] using h1
  congr 1
  apply Array.toList_inj.1; rw [this]
/-- A slice of them that came in. -/
def RdCallsB (w : World) (v : Value) (l : List CallM) : Prop := RdL CeCall 3 w v l ∧ l.length * 40 ≤ 140737488351232
set_option maxRecDepth 100000 in
theorem open_calls (hval : Value.okWide Try.prog W .any base 22 v) (h : DataW.Trod enc Try.prog W 0 (fun _ => true) true 22 v d p) (hz : ∀ n ∈ DataW.weights Try.prog 22 d, n ≤ reachBytes) : ∃ l, RdCallsB W v l := by
  obtain ⟨a0, len, cap, rfl⟩ := okWide_slice Try.underlying22 hval
  obtain ⟨fuel, hf⟩ := h
  obtain ⟨v', l, h1, h2, h3⟩ := open_list (el := CeCall) (sz := 3) (by_ := 40) Try.underlying22 (by kernel_rfl) (by omega) (by kernel_rfl) (fun fuel cs d p h hz => open_call_cells h hz) hf hz
  have : Value.slice a0 len cap = v' := (List.cons.inj h1).1
  subst this
  exact ⟨l, h2, by unfold reachBytes at h3; omega⟩
end
theorem elCall : El Try.prog 22 25 (.agg #[.int .i64 0, .int .i64 0, .slice none 0 0]) 3 40 := El.mk_ Try.underlying22 (by kernel_rfl) rfl (by omega)

end Go.Proofs.Ytmcidhjcimjeiaa
