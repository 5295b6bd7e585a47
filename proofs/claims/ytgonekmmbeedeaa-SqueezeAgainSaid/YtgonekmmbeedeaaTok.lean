/-
  Struct types of the program: what they read as, arguments of them opened (written by structs.py). No condition.
-/
import Derived.Test.YtgonekmmbeedeaaInts
import Derived.Test.YtgonekmmbeedeaaOwnL
import Derived.Lib.SmallJoins
namespace Go.Proofs.Ytgonekmmbeedeaa
open Go.RowKit Go.ChangeShapes Go.WideShapes Go.Deep Go.Joins
set_option linter.unusedVariables false

/-! ### api.Token -/
structure TokenM where
  kind : Int
  text : ByteArray
  line : Int
  col : Int
/-- The cells of one. -/
def CeToken (w : World) (cs : List Value) (m : TokenM) : Prop := cs = [.int .i64 m.kind, .string m.text, .int .i64 m.line, .int .i64 m.col] ∧ okI m.kind ∧ m.text.size ≤ 140737488351232 ∧ okI m.line ∧ okI m.col
theorem CeToken.kp : ElKp CeToken := fun _ _ _ _ hk ⟨h, h0, h1, h2, h3⟩ => ⟨h, h0, h1, h2, h3⟩
/-- As a value. -/
def RdToken (w : World) (v : Value) (m : TokenM) : Prop := v = .agg #[.int .i64 m.kind, .string m.text, .int .i64 m.line, .int .i64 m.col] ∧ okI m.kind ∧ m.text.size ≤ 140737488351232 ∧ okI m.line ∧ okI m.col
theorem RdToken.kp {w w' : World} {v : Value} {m : TokenM} (h : RdToken w v m) (hk : Kp w w') : RdToken w' v m := by
  obtain ⟨h, h0, h1, h2, h3⟩ := h
  exact ⟨h, h0, h1, h2, h3⟩
/-- The element i: its cells. -/
theorem at_token {w : World} {A : Option Addr} {n c : Nat} {l : List TokenM} {i : Nat} {m : TokenM} (h : RdL CeToken 4 w (.slice A n c) l) (hi : l[i]? = some m) : ∃ b off, A = some ⟨b, off, none⟩ ∧ b < w.heap.size ∧ w.cell? ⟨b, off + i * 4, none⟩ = some (.int .i64 m.kind) ∧ w.cell? ⟨b, off + i * 4 + 1, none⟩ = some (.string m.text) ∧ w.cell? ⟨b, off + i * 4 + 2, none⟩ = some (.int .i64 m.line) ∧ w.cell? ⟨b, off + i * 4 + 3, none⟩ = some (.int .i64 m.col) ∧ okI m.kind ∧ m.text.size ≤ 140737488351232 ∧ okI m.line ∧ okI m.col := by
  obtain ⟨b, off, cs, g1, g2, g3, _, g4⟩ := h.at_ hi
  obtain ⟨rfl, h0, h1, h2, h3⟩ := g3
  exact ⟨b, off, g1, g2, g4 0 (by omega), g4 1 (by omega), g4 2 (by omega), g4 3 (by omega), h0, h1, h2, h3⟩
/-- A pointer to one. -/
def PtToken (w : World) (v : Value) (m : TokenM) : Prop := ∃ b off, v = .pointer (some ⟨b, off, none⟩) ∧ b < w.heap.size ∧ w.cell? ⟨b, off, none⟩ = some (.int .i64 m.kind) ∧ w.cell? ⟨b, off + 1, none⟩ = some (.string m.text) ∧ w.cell? ⟨b, off + 2, none⟩ = some (.int .i64 m.line) ∧ w.cell? ⟨b, off + 3, none⟩ = some (.int .i64 m.col) ∧ okI m.kind ∧ m.text.size ≤ 140737488351232 ∧ okI m.line ∧ okI m.col
theorem PtToken.kp {w w' : World} {v : Value} {m : TokenM} (h : PtToken w v m) (hk : Kp w w') : PtToken w' v m := by
  obtain ⟨b, off, e, hb, g0, g1, g2, g3, h0, h1, h2, h3⟩ := h
  exact ⟨b, off, e, Nat.lt_of_lt_of_le hb hk.le, cell_kp hk hb g0, cell_kp hk hb g1, cell_kp hk hb g2, cell_kp hk hb g3, h0, h1, h2, h3⟩
theorem PtToken.rd {w : World} {b off : Nat} {m : TokenM} (h : PtToken w (.pointer (some ⟨b, off, none⟩)) m) : ∃ _u : Unit, RdToken w (.agg #[.int .i64 m.kind, .string m.text, .int .i64 m.line, .int .i64 m.col]) m ∧ w.cell? ⟨b, off, none⟩ = some (.int .i64 m.kind) ∧ w.cell? ⟨b, off + 1, none⟩ = some (.string m.text) ∧ w.cell? ⟨b, off + 2, none⟩ = some (.int .i64 m.line) ∧ w.cell? ⟨b, off + 3, none⟩ = some (.int .i64 m.col) := by
  obtain ⟨b', off', e, hb, g0, g1, g2, g3, h0, h1, h2, h3⟩ := h
  cases e
  exact ⟨(), ⟨rfl, h0, h1, h2, h3⟩, g0, g1, g2, g3⟩
theorem pt_token {w : World} {v : Value} {l : List TokenM} {i : Nat} {m : TokenM} (h : RdL CeToken 4 w v l) (hi : l[i]? = some m) : ∃ b off c, v = .slice (some ⟨b, off, none⟩) l.length c ∧ l.length ≤ c ∧ PtToken w (.pointer (some ⟨b, off + i * 4, none⟩)) m := by
  obtain ⟨A, c, rfl, hc⟩ := h.form
  obtain ⟨b, off, rfl, hb, g0, g1, g2, g3, h0, h1, h2, h3⟩ := at_token h hi
  exact ⟨b, off, c, rfl, hc, b, off + i * 4, rfl, hb, g0, g1, g2, g3, h0, h1, h2, h3⟩
@[go_sem] theorem field_token0 (x0 x1 x2 x3 : Value) (w : World) : Sem.run Try.prog (Instr.field 119 (.agg #[x0, x1, x2, x3]) 0) w = .ok (x0) w := by kernel_rfl
@[go_sem] theorem field_token1 (x0 x1 x2 x3 : Value) (w : World) : Sem.run Try.prog (Instr.field 119 (.agg #[x0, x1, x2, x3]) 1) w = .ok (x1) w := by kernel_rfl
@[go_sem] theorem field_token2 (x0 x1 x2 x3 : Value) (w : World) : Sem.run Try.prog (Instr.field 119 (.agg #[x0, x1, x2, x3]) 2) w = .ok (x2) w := by kernel_rfl
@[go_sem] theorem field_token3 (x0 x1 x2 x3 : Value) (w : World) : Sem.run Try.prog (Instr.field 119 (.agg #[x0, x1, x2, x3]) 3) w = .ok (x3) w := by kernel_rfl
section
variable {H : Type} {enc : TypeId × Value → H} {W : World} {base : Nat} {v : Value} {d : DataW H} {p : List MemPlace}
set_option maxRecDepth 100000 in
theorem open_token_cells {fuel : Nat} {cs : List Value} (hf : DataW.trod enc Try.prog W 0 (fun _ => true) true fuel 119 cs = some (d, p)) (hz : ∀ n ∈ DataW.weights Try.prog 119 d, n ≤ reachBytes) : ∃ m, CeToken W cs m := by
  obtain ⟨xs, n, _, hx, hlen, hxl, hi⟩ := DataW.trod_struct Try.underlying119 hf
  simp only [Prod.mk.injEq] at hx
  obtain ⟨rfl, rfl⟩ := hx
  have hcl : cs.length = 4 := hlen.trans (by kernel_rfl)
  match cs, hcl with
  | [c0, c1, c2, c3], _ =>
    match xs, hxl with
    | [y0, y1, y2, y3], _ =>
      have hw := fun j f d hf hd => weights_struct (H := H) (ds := [y0.1, y1.1, y2.1, y3.1]) Try.underlying119 hz j f d hf hd
      have e0 : Try.prog.cellsOf 3 = 1 := by kernel_rfl
      have e1 : Try.prog.cellsOf 9 = 1 := by kernel_rfl
      have q0 : DataW.trod enc Try.prog W 0 (fun _ => true) true n 3 (([c0, c1, c2, c3].drop 0).take (Try.prog.cellsOf 3)) = some y0 := hi 0 _ rfl
      rw [e0] at q0
      have q1 : DataW.trod enc Try.prog W 0 (fun _ => true) true n 9 (([c0, c1, c2, c3].drop 1).take (Try.prog.cellsOf 9)) = some y1 := hi 1 _ rfl
      rw [e1] at q1
      have z1 := hw 1 _ y1.1 rfl rfl
      have q2 : DataW.trod enc Try.prog W 0 (fun _ => true) true n 3 (([c0, c1, c2, c3].drop 2).take (Try.prog.cellsOf 3)) = some y2 := hi 2 _ rfl
      rw [e0] at q2
      have q3 : DataW.trod enc Try.prog W 0 (fun _ => true) true n 3 (([c0, c1, c2, c3].drop 3).take (Try.prog.cellsOf 3)) = some y3 := hi 3 _ rfl
      rw [e0] at q3
      obtain ⟨k0, g0, xx0, w0⟩ := DataW.trod_int Try.underlying3 q0
      simp at g0
      subst g0
      obtain ⟨k1, g1, xx1, w1⟩ := DataW.trod_string Try.underlying9 q1
      simp at g1
      subst g1
      have s1 : k1.size ≤ 140737488351232 := by
        have := z1 k1.data.toList.length (by rw [xx1]; simp [DataW.weights])
        rw [Array.length_toList] at this; exact this
      obtain ⟨k2, g2, xx2, w2⟩ := DataW.trod_int Try.underlying3 q2
      simp at g2
      subst g2
      obtain ⟨k3, g3, xx3, w3⟩ := DataW.trod_int Try.underlying3 q3
      simp at g3
      subst g3
      exact ⟨⟨k0, k1, k2, k3⟩, rfl, Go.bounds_i64 w0, s1, Go.bounds_i64 w2, Go.bounds_i64 w3⟩
set_option maxRecDepth 100000 in
theorem open_token (hval : Value.okWide Try.prog W .any base 119 v) (h : DataW.Trod enc Try.prog W 0 (fun _ => true) true 119 v d p) (hz : ∀ n ∈ DataW.weights Try.prog 119 d, n ≤ reachBytes) : ∃ m, RdToken W v m := by
  obtain ⟨cs, rfl, hsz⟩ := okWide_struct Try.underlying119 hval
  obtain ⟨fuel, hf⟩ := h
  obtain ⟨m, h1, h2⟩ := open_token_cells hf hz
  refine ⟨m, ?_, h2⟩
  have : cs.toList = [.int .i64 m.kind, .string m.text, .int .i64 m.line, .int .i64 m.col] := by simpa [Value.cells] using h1
  congr 1
  apply Array.toList_inj.1; rw [this]
/-- A slice of them that came in. -/
def RdTokensB (w : World) (v : Value) (l : List TokenM) : Prop := RdL CeToken 4 w v l ∧ l.length * 40 ≤ 140737488351232
set_option maxRecDepth 100000 in
theorem open_tokens (hval : Value.okWide Try.prog W .any base 85 v) (h : DataW.Trod enc Try.prog W 0 (fun _ => true) true 85 v d p) (hz : ∀ n ∈ DataW.weights Try.prog 85 d, n ≤ reachBytes) : ∃ l, RdTokensB W v l := by
  obtain ⟨a0, len, cap, rfl⟩ := okWide_slice Try.underlying85 hval
  obtain ⟨fuel, hf⟩ := h
  obtain ⟨v', l, h1, h2, h3⟩ := open_list (el := CeToken) (sz := 4) (by_ := 40) Try.underlying85 (by kernel_rfl) (by omega) (by kernel_rfl) (fun fuel cs d p h hz => open_token_cells h hz) hf hz
  have : Value.slice a0 len cap = v' := (List.cons.inj h1).1
  subst this
  exact ⟨l, h2, by unfold reachBytes at h3; omega⟩
end
theorem elToken : El Try.prog 85 119 (.agg #[.int .i64 0, .string ⟨#[]⟩, .int .i64 0, .int .i64 0]) 4 40 := El.mk_ Try.underlying85 (by kernel_rfl) rfl (by omega)

end Go.Proofs.Ytgonekmmbeedeaa
