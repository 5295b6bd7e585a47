/-
  Struct types of the program: what they read as, arguments of them opened (written by structs.py). No condition.
-/
import Derived.Test.YtgonekmmbeedeaaInts
import Derived.Test.YtgonekmmbeedeaaOwnL
import Derived.Lib.SmallJoins
namespace Go.Proofs.Ytgonekmmbeedeaa
open Go.RowKit Go.ChangeShapes Go.WideShapes Go.Deep Go.Joins
set_option linter.unusedVariables false

/-! ### api.Node -/
structure NodeM where
  kind : Int
  text : ByteArray
  type_ : ByteArray
  num : Int
  kids : List Int
/-- The cells of one. -/
def CeNode (w : World) (cs : List Value) (m : NodeM) : Prop := ∃ lkids, cs = [.int .i64 m.kind, .string m.text, .string m.type_, .int .i64 m.num, lkids] ∧ okI m.kind ∧ m.text.size ≤ 140737488351232 ∧ m.type_.size ≤ 140737488351232 ∧ okI m.num ∧ RdInts w lkids m.kids ∧ m.kids.length * 8 ≤ 140737488351232
theorem CeNode.kp : ElKp CeNode := fun _ _ _ _ hk ⟨lkids, h, h0, h1, h2, h3, h4, h5⟩ => ⟨lkids, h, h0, h1, h2, h3, h4.kp hk, h5⟩
/-- As a value. -/
def RdNode (w : World) (v : Value) (m : NodeM) : Prop := ∃ lkids, v = .agg #[.int .i64 m.kind, .string m.text, .string m.type_, .int .i64 m.num, lkids] ∧ okI m.kind ∧ m.text.size ≤ 140737488351232 ∧ m.type_.size ≤ 140737488351232 ∧ okI m.num ∧ RdInts w lkids m.kids ∧ m.kids.length * 8 ≤ 140737488351232
theorem RdNode.kp {w w' : World} {v : Value} {m : NodeM} (h : RdNode w v m) (hk : Kp w w') : RdNode w' v m := by
  obtain ⟨lkids, h, h0, h1, h2, h3, h4, h5⟩ := h
  exact ⟨lkids, h, h0, h1, h2, h3, h4.kp hk, h5⟩
/-- The element i: its cells. -/
theorem at_node {w : World} {A : Option Addr} {n c : Nat} {l : List NodeM} {i : Nat} {m : NodeM} (h : RdL CeNode 5 w (.slice A n c) l) (hi : l[i]? = some m) : ∃ b off, A = some ⟨b, off, none⟩ ∧ b < w.heap.size ∧ ∃ lkids, w.cell? ⟨b, off + i * 5, none⟩ = some (.int .i64 m.kind) ∧ w.cell? ⟨b, off + i * 5 + 1, none⟩ = some (.string m.text) ∧ w.cell? ⟨b, off + i * 5 + 2, none⟩ = some (.string m.type_) ∧ w.cell? ⟨b, off + i * 5 + 3, none⟩ = some (.int .i64 m.num) ∧ w.cell? ⟨b, off + i * 5 + 4, none⟩ = some (lkids) ∧ okI m.kind ∧ m.text.size ≤ 140737488351232 ∧ m.type_.size ≤ 140737488351232 ∧ okI m.num ∧ RdInts w lkids m.kids ∧ m.kids.length * 8 ≤ 140737488351232 := by
  obtain ⟨b, off, cs, g1, g2, g3, _, g4⟩ := h.at_ hi
  obtain ⟨lkids, rfl, h0, h1, h2, h3, h4, h5⟩ := g3
  exact ⟨b, off, g1, g2, lkids, g4 0 (by omega), g4 1 (by omega), g4 2 (by omega), g4 3 (by omega), g4 4 (by omega), h0, h1, h2, h3, h4, h5⟩
/-- A pointer to one. -/
def PtNode (w : World) (v : Value) (m : NodeM) : Prop := ∃ b off lkids, v = .pointer (some ⟨b, off, none⟩) ∧ b < w.heap.size ∧ w.cell? ⟨b, off, none⟩ = some (.int .i64 m.kind) ∧ w.cell? ⟨b, off + 1, none⟩ = some (.string m.text) ∧ w.cell? ⟨b, off + 2, none⟩ = some (.string m.type_) ∧ w.cell? ⟨b, off + 3, none⟩ = some (.int .i64 m.num) ∧ w.cell? ⟨b, off + 4, none⟩ = some (lkids) ∧ okI m.kind ∧ m.text.size ≤ 140737488351232 ∧ m.type_.size ≤ 140737488351232 ∧ okI m.num ∧ RdInts w lkids m.kids ∧ m.kids.length * 8 ≤ 140737488351232
theorem PtNode.kp {w w' : World} {v : Value} {m : NodeM} (h : PtNode w v m) (hk : Kp w w') : PtNode w' v m := by
  obtain ⟨b, off, lkids, e, hb, g0, g1, g2, g3, g4, h0, h1, h2, h3, h4, h5⟩ := h
  exact ⟨b, off, lkids, e, Nat.lt_of_lt_of_le hb hk.le, cell_kp hk hb g0, cell_kp hk hb g1, cell_kp hk hb g2, cell_kp hk hb g3, cell_kp hk hb g4, h0, h1, h2, h3, h4.kp hk, h5⟩
theorem PtNode.rd {w : World} {b off : Nat} {m : NodeM} (h : PtNode w (.pointer (some ⟨b, off, none⟩)) m) : ∃ lkids, RdNode w (.agg #[.int .i64 m.kind, .string m.text, .string m.type_, .int .i64 m.num, lkids]) m ∧ w.cell? ⟨b, off, none⟩ = some (.int .i64 m.kind) ∧ w.cell? ⟨b, off + 1, none⟩ = some (.string m.text) ∧ w.cell? ⟨b, off + 2, none⟩ = some (.string m.type_) ∧ w.cell? ⟨b, off + 3, none⟩ = some (.int .i64 m.num) ∧ w.cell? ⟨b, off + 4, none⟩ = some (lkids) := by
  obtain ⟨b', off', lkids, e, hb, g0, g1, g2, g3, g4, h0, h1, h2, h3, h4, h5⟩ := h
  cases e
  exact ⟨lkids, ⟨lkids, rfl, h0, h1, h2, h3, h4, h5⟩, g0, g1, g2, g3, g4⟩
theorem pt_node {w : World} {v : Value} {l : List NodeM} {i : Nat} {m : NodeM} (h : RdL CeNode 5 w v l) (hi : l[i]? = some m) : ∃ b off c, v = .slice (some ⟨b, off, none⟩) l.length c ∧ l.length ≤ c ∧ PtNode w (.pointer (some ⟨b, off + i * 5, none⟩)) m := by
  obtain ⟨A, c, rfl, hc⟩ := h.form
  obtain ⟨b, off, rfl, hb, lkids, g0, g1, g2, g3, g4, h0, h1, h2, h3, h4, h5⟩ := at_node h hi
  exact ⟨b, off, c, rfl, hc, b, off + i * 5, lkids, rfl, hb, g0, g1, g2, g3, g4, h0, h1, h2, h3, h4, h5⟩
@[go_sem] theorem field_node0 (x0 x1 x2 x3 x4 : Value) (w : World) : Sem.run Try.prog (Instr.field 54 (.agg #[x0, x1, x2, x3, x4]) 0) w = .ok (x0) w := by kernel_rfl
@[go_sem] theorem field_node1 (x0 x1 x2 x3 x4 : Value) (w : World) : Sem.run Try.prog (Instr.field 54 (.agg #[x0, x1, x2, x3, x4]) 1) w = .ok (x1) w := by kernel_rfl
@[go_sem] theorem field_node2 (x0 x1 x2 x3 x4 : Value) (w : World) : Sem.run Try.prog (Instr.field 54 (.agg #[x0, x1, x2, x3, x4]) 2) w = .ok (x2) w := by kernel_rfl
@[go_sem] theorem field_node3 (x0 x1 x2 x3 x4 : Value) (w : World) : Sem.run Try.prog (Instr.field 54 (.agg #[x0, x1, x2, x3, x4]) 3) w = .ok (x3) w := by kernel_rfl
@[go_sem] theorem field_node4 (x0 x1 x2 x3 x4 : Value) (w : World) : Sem.run Try.prog (Instr.field 54 (.agg #[x0, x1, x2, x3, x4]) 4) w = .ok (x4) w := by kernel_rfl
section
variable {H : Type} {enc : TypeId × Value → H} {W : World} {base : Nat} {v : Value} {d : DataW H} {p : List MemPlace}
set_option maxRecDepth 100000 in
theorem open_node_cells {fuel : Nat} {cs : List Value} (hf : DataW.trod enc Try.prog W 0 (fun _ => true) true fuel 54 cs = some (d, p)) (hz : ∀ n ∈ DataW.weights Try.prog 54 d, n ≤ reachBytes) : ∃ m, CeNode W cs m := by
  obtain ⟨xs, n, _, hx, hlen, hxl, hi⟩ := DataW.trod_struct Try.underlying54 hf
  simp only [Prod.mk.injEq] at hx
  obtain ⟨rfl, rfl⟩ := hx
  have hcl : cs.length = 5 := hlen.trans (by kernel_rfl)
  match cs, hcl with
  | [c0, c1, c2, c3, c4], _ =>
    match xs, hxl with
    | [y0, y1, y2, y3, y4], _ =>
      have hw := fun j f d hf hd => weights_struct (H := H) (ds := [y0.1, y1.1, y2.1, y3.1, y4.1]) Try.underlying54 hz j f d hf hd
      have e0 : Try.prog.cellsOf 3 = 1 := by kernel_rfl
      have e1 : Try.prog.cellsOf 9 = 1 := by kernel_rfl
      have e2 : Try.prog.cellsOf 52 = 1 := by kernel_rfl
      have q0 : DataW.trod enc Try.prog W 0 (fun _ => true) true n 3 (([c0, c1, c2, c3, c4].drop 0).take (Try.prog.cellsOf 3)) = some y0 := hi 0 _ rfl
      rw [e0] at q0
      have q1 : DataW.trod enc Try.prog W 0 (fun _ => true) true n 9 (([c0, c1, c2, c3, c4].drop 1).take (Try.prog.cellsOf 9)) = some y1 := hi 1 _ rfl
      rw [e1] at q1
      have z1 := hw 1 _ y1.1 rfl rfl
      have q2 : DataW.trod enc Try.prog W 0 (fun _ => true) true n 9 (([c0, c1, c2, c3, c4].drop 2).take (Try.prog.cellsOf 9)) = some y2 := hi 2 _ rfl
      rw [e1] at q2
      have z2 := hw 2 _ y2.1 rfl rfl
      have q3 : DataW.trod enc Try.prog W 0 (fun _ => true) true n 3 (([c0, c1, c2, c3, c4].drop 3).take (Try.prog.cellsOf 3)) = some y3 := hi 3 _ rfl
      rw [e0] at q3
      have q4 : DataW.trod enc Try.prog W 0 (fun _ => true) true n 52 (([c0, c1, c2, c3, c4].drop 4).take (Try.prog.cellsOf 52)) = some y4 := hi 4 _ rfl
      rw [e2] at q4
      have z4 := hw 4 _ y4.1 rfl rfl
      obtain ⟨k0, g0, xx0, w0⟩ := DataW.trod_int Try.underlying3 q0
      simp at g0
      subst g0
      obtain ⟨k1, g1, xx1, w1⟩ := DataW.trod_string Try.underlying9 q1
      simp at g1
      subst g1
      have s1 : k1.size ≤ 140737488351232 := by
        have := z1 k1.data.toList.length (by rw [xx1]; simp [DataW.weights])
        rw [Array.length_toList] at this; exact this
      obtain ⟨k2, g2, xx2, w2⟩ := DataW.trod_string Try.underlying9 q2
      simp at g2
      subst g2
      have s2 : k2.size ≤ 140737488351232 := by
        have := z2 k2.data.toList.length (by rw [xx2]; simp [DataW.weights])
        rw [Array.length_toList] at this; exact this
      obtain ⟨k3, g3, xx3, w3⟩ := DataW.trod_int Try.underlying3 q3
      simp at g3
      subst g3
      obtain ⟨lv4, k4, g4, xx4, w4⟩ := open_ints_cells (d := y4.1) (p := y4.2) q4 z4
      simp at g4
      subst g4
      exact ⟨⟨k0, k1, k2, k3, k4⟩, _, rfl, Go.bounds_i64 w0, s1, s2, Go.bounds_i64 w3, xx4, w4⟩
set_option maxRecDepth 100000 in
theorem open_node (hval : Value.okWide Try.prog W .any base 54 v) (h : DataW.Trod enc Try.prog W 0 (fun _ => true) true 54 v d p) (hz : ∀ n ∈ DataW.weights Try.prog 54 d, n ≤ reachBytes) : ∃ m, RdNode W v m := by
  obtain ⟨cs, rfl, hsz⟩ := okWide_struct Try.underlying54 hval
  obtain ⟨fuel, hf⟩ := h
  obtain ⟨m, u0, h1, h2⟩ := open_node_cells hf hz
  refine ⟨m, u0, ?_, h2⟩
  have : cs.toList = [.int .i64 m.kind, .string m.text, .string m.type_, .int .i64 m.num, u0] := by simpa [Value.cells] using h1
  congr 1
  apply Array.toList_inj.1; rw [this]
/-- A slice of them that came in. -/
def RdNodesB (w : World) (v : Value) (l : List NodeM) : Prop := RdL CeNode 5 w v l ∧ l.length * 72 ≤ 140737488351232
set_option maxRecDepth 100000 in
theorem open_nodes (hval : Value.okWide Try.prog W .any base 46 v) (h : DataW.Trod enc Try.prog W 0 (fun _ => true) true 46 v d p) (hz : ∀ n ∈ DataW.weights Try.prog 46 d, n ≤ reachBytes) : ∃ l, RdNodesB W v l := by
  obtain ⟨a0, len, cap, rfl⟩ := okWide_slice Try.underlying46 hval
  obtain ⟨fuel, hf⟩ := h
  obtain ⟨v', l, h1, h2, h3⟩ := open_list (el := CeNode) (sz := 5) (by_ := 72) Try.underlying46 (by kernel_rfl) (by omega) (by kernel_rfl) (fun fuel cs d p h hz => open_node_cells h hz) hf hz
  have : Value.slice a0 len cap = v' := (List.cons.inj h1).1
  subst this
  exact ⟨l, h2, by unfold reachBytes at h3; omega⟩
end
theorem elNode : El Try.prog 46 54 (.agg #[.int .i64 0, .string ⟨#[]⟩, .string ⟨#[]⟩, .int .i64 0, .slice none 0 0]) 5 72 := El.mk_ Try.underlying46 (by kernel_rfl) rfl (by omega)

end Go.Proofs.Ytgonekmmbeedeaa
