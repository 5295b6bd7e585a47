/-
  Memory words of this seat: element types, rows that a call owns, rows that are read. No condition.
-/
import Derived.Test.YtgonekmmbeedeaaBase
import Derived.Maps.AppendAt
import Derived.Deep.AppendLies
import Derived.OwnWalk
namespace Go.Proofs.Ytgonekmmbeedeaa
open Go.RowKit

/-- What the program's table says of a slice type t and its element type e. -/
def El (P : Program) (t e : TypeId) (z : Value) (size bytes : Nat) : Prop :=
  ∃ i, P.underlying t = some (.slice e) ∧ P.info? e = some i ∧ i.zero = some z ∧ i.size = size ∧ i.bytes = bytes ∧ z.cells.size = size ∧ 0 < size
theorem El.mk_ {P : Program} {t e : TypeId} {z : Value} {size bytes : Nat} (ht : P.underlying t = some (.slice e)) (h : (P.info? e).map (fun i => (i.zero, i.size, i.bytes)) = some (some z, size, bytes)) (hz : z.cells.size = size) (hs : 0 < size) : El P t e z size bytes := by
  obtain ⟨i, h1, h2, h3, h4⟩ := info_parts h
  exact ⟨i, ht, h1, h2, h3, h4, hz, hs⟩

theorem cell_of_alloc (w : World) (cs : Array Value) (T : TypeId) (j : Nat) : (w.alloc (.cells cs T)).cell? ((⟨w.heap.size, 0, none⟩ : Addr).add j) = cs[j]? := by
  unfold Addr.add
  by_cases hj : j = 0
  · subst hj; simp
  · simp [hj]

theorem own_form {w : World} {base : Nat} {e : TypeId} {size n : Nat} {v : Value} {xs : List Value} (h : w.ownsRow base e size v n xs) : ∃ A c, v = .slice A n c := by
  rcases h.2 with ⟨rfl, h0⟩ | ⟨g, cap, cur, rfl, _⟩
  · exact ⟨none, 0, by rw [h0]⟩
  · exact ⟨_, cap, rfl⟩
theorem below_cells {B : Nat} {W w1 : World} (hb : Below B W w1) : (∀ b o, b < B → w1.cell? ⟨b, o, none⟩ = W.cell? ⟨b, o, none⟩) ∧ (∀ b o, b < B → w1.frozen? ⟨b, o, none⟩ = W.frozen? ⟨b, o, none⟩) :=
  ⟨fun b o h => Below.cell (p := ⟨b, o, none⟩) hb h, fun b o h => Below.frozen (p := ⟨b, o, none⟩) hb h⟩
theorem own_base {w : World} {b B : Nat} {e : TypeId} {size n : Nat} {v : Value} {xs : List Value} (hb : b ≤ B) (h : w.ownsRow B e size v n xs) : w.ownsRow b e size v n xs := by
  obtain ⟨h1, h2⟩ := h
  refine ⟨h1, ?_⟩
  rcases h2 with h2 | ⟨g, cap, cur, hv, hg, r⟩
  · exact .inl h2
  · exact .inr ⟨g, cap, cur, hv, by omega, r⟩
/-- Where a row stands behind a step: it lies as it lay, or in a new block. -/
def Moved (w : World) (v v' : Value) : Prop := v'.ownBlock = v.ownBlock ∨ ∃ k, v'.ownBlock = some k ∧ w.heap.size ≤ k

theorem own_below {w w' : World} {base : Nat} {e : TypeId} {size n : Nat} {v : Value} {xs : List Value} (hown : w.ownsRow base e size v n xs) (hg : w.grownBy w' v.ownBlock) (hb : base ≤ w.heap.size) : Below base w w' :=
  (Below.refl _ _).grown hg hb (fun k hk => (hown.lt k hk).1)

section
variable {P : Program} {w0 : World} {ops : Array Oper} {rest : List Oper} {o : Oper} {a : Act} {Q : Exit → Act → World → Prop}
variable {t e : TypeId} {z : Value} {size bytes base : Nat} {v : Value} {n : Nat} {xs : List Value}

/-- append(own row, a literal row): the literal lies in the block made last. -/
theorem app_lit (E : El P t e z size bytes) (hgd : o.guard = none) (s x : Operand) (ho : o.op = .call { callee := .builtin .append, args := #[s, x], argTypes := #[t, t] })
    (hown : w0.ownsRow base e size v n xs) (hs : a.eval s = v) (cs : Array Value) (T : TypeId) (m c : Nat) (hx : a.eval x = .slice (some ⟨w0.heap.size, 0, none⟩) m c) (hl : cs.size = m * size)
    (h1 : ∀ u ∈ cs.toList, u.oneCell' = true) (h63 : n + m ≤ maxLen) (hbytes : (n + m) * bytes ≤ 140737488355328) (hbase : base ≤ w0.heap.size)
    (h : ∀ v' w', w'.ownsRow base e size v' (n + m) (xs ++ cs.toList) → w0.grownBy w' v.ownBlock → Moved w0 v v' → (v' = .slice none 0 0 ↔ v = .slice none 0 0 ∧ m = 0) → Below base w0 w' → wpList P ops Q rest (a.put o.dst v') w') :
    wpList P ops Q (o :: rest) a (w0.alloc (.cells cs T)) := by
  obtain ⟨i, ht, hi, hz, hsz, hby, hzs, h0⟩ := E
  obtain ⟨v', w', hrun, g1, g2, g3, g4⟩ := run_append_own_at (P := P) (w0.alloc (.cells cs T)) base t o.type e i z size bytes ht hi hz hsz hby hzs h0 v n xs (hown.alloc _) ⟨w0.heap.size, 0, none⟩ m c cs.toList (by simpa using hl)
    (fun j u hj => by rw [cell_of_alloc]; simpa using hj) h1 h63 hbytes (by simp; omega)
  have hg : w0.grownBy w' v.ownBlock := by
    refine ⟨g2.os, g2.tape, g2.output, Nat.le_trans (by simp) g2.size, fun k hk hne => ?_⟩
    rw [g2.block k (by simp; omega) hne, Below.heap_alloc _ _ _ hk]
  refine wpList_plain hgd fun K hK => ?_
  unfold Oper.wp execOp
  simp only [ho, resolve, invoke, builtin, Sem.run_bind, Sem.run_pure, Result.andThen_ok, List.map_toArray, List.map_cons, List.map_nil, hs, hx, hrun]
  refine hK _ _ (h v' w' g1 hg ?_ g3 (own_below hown hg hbase))
  rcases g4 with g4 | g4
  · exact .inl g4
  · exact .inr ⟨_, g4, by simp⟩

/-- The same where the new block's number is spelled otherwise. -/
theorem app_lit_at (H : Nat) (hH : w0.heap.size = H) (E : El P t e z size bytes) (hgd : o.guard = none) (s x : Operand) (ho : o.op = .call { callee := .builtin .append, args := #[s, x], argTypes := #[t, t] })
    (hown : w0.ownsRow base e size v n xs) (hs : a.eval s = v) (cs : Array Value) (T : TypeId) (m c : Nat) (hx : a.eval x = .slice (some ⟨H, 0, none⟩) m c) (hl : cs.size = m * size)
    (h1 : ∀ u ∈ cs.toList, u.oneCell' = true) (h63 : n + m ≤ maxLen) (hbytes : (n + m) * bytes ≤ 140737488355328) (hbase : base ≤ w0.heap.size)
    (h : ∀ v' w', w'.ownsRow base e size v' (n + m) (xs ++ cs.toList) → w0.grownBy w' v.ownBlock → Moved w0 v v' → Below base w0 w' → wpList P ops Q rest (a.put o.dst v') w') :
    wpList P ops Q (o :: rest) a (w0.alloc (.cells cs T)) := by
  subst hH
  exact app_lit E hgd s x ho hown hs cs T m c hx hl h1 h63 hbytes hbase (fun v' w' g1 g2 g3 _ g5 => h v' w' g1 g2 g3 g5)
/-- append(own row, src...): src lies somewhere, its cells are known: what the run gives. -/
theorem run_app (E : El P t e z size bytes) (ty : TypeId) (hown : w0.ownsRow base e size v n xs) (news : List Value) (A : Option Addr) (m c : Nat) (hl : news.length = m * size)
    (hcell : 0 < m → ∃ ad, A = some ad ∧ ∀ j u, news[j]? = some u → w0.cell? (ad.add j) = some u)
    (h1 : ∀ u ∈ news, u.oneCell' = true) (h63 : n + m ≤ maxLen) (hbytes : (n + m) * bytes ≤ 140737488355328) (hbase : base ≤ w0.heap.size) :
    ∃ v' w', (Builtin.append_ #[t, t] ty #[v, .slice A m c]).run P w0 = .ok v' w' ∧ w'.ownsRow base e size v' (n + m) (xs ++ news) ∧ w0.grownBy w' v.ownBlock ∧ Moved w0 v v' ∧ Below base w0 w' := by
  obtain ⟨i, ht, hi, hz, hsz, hby, hzs, h0⟩ := E
  cases A with
  | none =>
    have hm : m = 0 := by
      rcases Nat.eq_zero_or_pos m with hm | hm
      · exact hm
      · obtain ⟨_, h, _⟩ := hcell hm; cases h
    subst hm
    obtain rfl : news = [] := List.eq_nil_of_length_eq_zero (by simpa using hl)
    have hg := World.grownBy.refl w0 v.ownBlock
    refine ⟨v, w0, ?_, by simpa using hown, hg, .inl rfl, own_below hown hg hbase⟩
    rcases hown.2 with ⟨rfl, rfl⟩ | ⟨g, cap, cur, rfl, _, _, hnc, _⟩
    · simp [Builtin.append_, run_underlying ht, sizeOf, typeInfo, hi, Builtin.lenOf, Builtin.firstCells]
    · simp [Builtin.append_, run_underlying ht, sizeOf, typeInfo, hi, Builtin.lenOf, Builtin.firstCells, hnc, storeCells]
  | some ad =>
    have hc : ∀ j u, news[j]? = some u → w0.cell? (ad.add j) = some u := by
      intro j u hu
      rcases Nat.eq_zero_or_pos m with hm | hm
      · subst hm
        obtain rfl : news = [] := List.eq_nil_of_length_eq_zero (by simpa using hl)
        simp at hu
      · obtain ⟨_, h, hc⟩ := hcell hm
        cases h; exact hc j u hu
    obtain ⟨v', w', g1, g2, g3, _, g4⟩ := run_append_own_at (P := P) w0 base t ty e i z size bytes ht hi hz hsz hby hzs h0 v n xs hown ad m c news hl hc h1 h63 hbytes hbase
    refine ⟨v', w', g1, g2, g3, ?_, own_below hown g3 hbase⟩
    rcases g4 with g4 | g4
    · exact .inl g4
    · exact .inr ⟨_, g4, Nat.le_refl _⟩
/-- The same in a list of operations. -/
theorem app_src (E : El P t e z size bytes) (hgd : o.guard = none) (s x : Operand) (ho : o.op = .call { callee := .builtin .append, args := #[s, x], argTypes := #[t, t] })
    (hown : w0.ownsRow base e size v n xs) (hs : a.eval s = v) (news : List Value) (A : Option Addr) (m c : Nat) (hx : a.eval x = .slice A m c) (hl : news.length = m * size)
    (hcell : 0 < m → ∃ ad, A = some ad ∧ ∀ j u, news[j]? = some u → w0.cell? (ad.add j) = some u)
    (h1 : ∀ u ∈ news, u.oneCell' = true) (h63 : n + m ≤ maxLen) (hbytes : (n + m) * bytes ≤ 140737488355328) (hbase : base ≤ w0.heap.size)
    (h : ∀ v' w', w'.ownsRow base e size v' (n + m) (xs ++ news) → w0.grownBy w' v.ownBlock → Moved w0 v v' → Below base w0 w' → wpList P ops Q rest (a.put o.dst v') w') :
    wpList P ops Q (o :: rest) a w0 := by
  obtain ⟨v', w', hrun, g1, g2, g3, g4⟩ := run_app E o.type hown news A m c hl hcell h1 h63 hbytes hbase
  refine wpList_plain hgd fun K hK => ?_
  unfold Oper.wp execOp
  simp only [ho, resolve, invoke, builtin, Sem.run_bind, Sem.run_pure, Result.andThen_ok, List.map_toArray, List.map_cons, List.map_nil, hs, hx, hrun]
  exact hK _ _ (h v' w' g1 g2 g3 g4)
/-- The same at a step of a region that draws its order. -/
theorem step_app {K : Act → World → Prop} {E' : Prop} (E : El P t e z size bytes) (hgd : o.guard = none) (s x : Operand) (ho : o.op = .call { callee := .builtin .append, args := #[s, x], argTypes := #[t, t] })
    (hown : w0.ownsRow base e size v n xs) (hs : a.eval s = v) (news : List Value) (A : Option Addr) (m c : Nat) (hx : a.eval x = .slice A m c) (hl : news.length = m * size)
    (hcell : 0 < m → ∃ ad, A = some ad ∧ ∀ j u, news[j]? = some u → w0.cell? (ad.add j) = some u)
    (h1 : ∀ u ∈ news, u.oneCell' = true) (h63 : n + m ≤ maxLen) (hbytes : (n + m) * bytes ≤ 140737488355328) (hbase : base ≤ w0.heap.size)
    (h : ∀ v' w', w'.ownsRow base e size v' (n + m) (xs ++ news) → w0.grownBy w' v.ownBlock → Moved w0 v v' → Below base w0 w' → K (a.put o.dst v') w') :
    if Region.wanted o (yielded ops a.tmps) = true then Oper.wp P o a w0 K Q else E' := by
  obtain ⟨v', w', hrun, g1, g2, g3, g4⟩ := run_app E o.type hown news A m c hl hcell h1 h63 hbytes hbase
  have hw : Region.wanted o (yielded ops a.tmps) = true := by simp [Region.wanted, hgd]
  rw [if_pos hw]
  unfold Oper.wp execOp
  simp only [ho, resolve, invoke, builtin, Sem.run_bind, Sem.run_pure, Result.andThen_ok, List.map_toArray, List.map_cons, List.map_nil, hs, hx, hrun]
  exact h v' w' g1 g2 g3 g4

/-- make([]T, 0, n). -/
theorem mk_own (E : El P t e z size bytes) (hg : o.guard = none) (l c : Operand) (hop : o.op = Op.makeSlice t l c) (N : Nat) {kl kc : IntKind} {C : Int} (hl : a.eval l = .int kl 0) (hc : a.eval c = .int kc C) (hC : C = (N : Int))
    (b2 : bytes * N ≤ 281474976710656) (b3 : N ≤ maxLen) (b4 : base ≤ w0.heap.size)
    (hK : ∀ w', w'.ownsRow base e size (.slice (some ⟨w0.heap.size, 0, none⟩) 0 N) 0 [] → Below base w0 w' → w0.grownBy w' none → wpList P ops Q rest (a.put o.dst (.slice (some ⟨w0.heap.size, 0, none⟩) 0 N)) w') :
    wpList P ops Q (o :: rest) a w0 := by
  obtain ⟨i, ht, hi, hz, hsz, hby, hzs, h0⟩ := E
  refine wpList_make_own w0 hg l c t hop base e i z size ht hi hz hsz kl kc C N hl hc hC (by rw [hby]; exact b2) b3 b4 ?_
  intro w' h1 h2
  exact hK w' h1 ((Below.refl _ _).grown h2 b4 (fun k hk => by cases hk)) h2

end

end Go.Proofs.Ytgonekmmbeedeaa
