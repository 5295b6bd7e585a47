/-
  Parts of the proof of a law: Base, Mem, Open, Ints, List, OwnL, Tok, Byte, Quote, Unquote, Text, Read, ScanP, UnquoteP, RdN, TypesP, Blk. No condition.
-/
import Derived.Test.YtcjgagmcnmmfoaaProg
import Derived.WalkKit
import Derived.ProofKit
import Derived.OpenShut
import Derived.Deep.Draws
import Derived.WalkSpells
import Derived.WalkLawsBesides
import Derived.Maps.AppendAt
import Derived.Deep.AppendLies
import Derived.OwnWalk
import Derived.Deep.Slices
import Derived.Deep.QuietTactic
import Derived.BigQuiet
import Derived.SizedLaws
import Derived.Lib.SmallJoins
import Derived.Laws.BytesArg
import Derived.Test.YtcjgagmcnmmfoaaShelf
import Derived.Lib.ItoaNum
import Derived.Lib.Strings
set_option maxRecDepth 20000
set_option maxHeartbeats 16000000
set_option linter.unusedVariables false
set_option linter.unusedSimpArgs false
namespace Go.Proofs.Ytcjgagmcnmmfoaa
open Go.RowKit

def Kp (w w' : World) : Prop := Below w.heap.size w w'
theorem Kp.refl (w : World) : Kp w w := Below.refl _ _
theorem Kp.trans {a b c : World} (h : Kp a b) (k : Kp b c) : Kp a c := Below.trans h (Below.mono k h.size)
theorem Kp.drew {a w : World} (h : Kp a w) : Kp a w.drew := Below.drew h
theorem Kp.drewN {a w : World} (h : Kp a w) (n : Nat) : Kp a (w.drewN n) := ⟨h.os, h.tape, h.output, h.size, h.block⟩
theorem Kp.alloc {a w : World} (h : Kp a w) (o : Obj) : Kp a (w.alloc o) := Below.alloc h h.size o
theorem Kp.setCell {a w : World} (h : Kp a w) {p : Addr} (hp : a.heap.size ≤ p.block) (u : Value) : Kp a (w.setCell p u) := Below.setCell h hp u
theorem Kp.cells {W w1 : World} (hb : Kp W w1) : (∀ b o, b < W.heap.size → w1.cell? ⟨b, o, none⟩ = W.cell? ⟨b, o, none⟩) ∧ (∀ b o, b < W.heap.size → w1.frozen? ⟨b, o, none⟩ = W.frozen? ⟨b, o, none⟩) :=
 ⟨fun b o h => Below.cell (p := ⟨b, o, none⟩) hb h, fun b o h => Below.frozen (p := ⟨b, o, none⟩) hb h⟩
theorem Kp.le {W w1 : World} (hb : Kp W w1) : W.heap.size ≤ w1.heap.size := Below.size hb

theorem hid {p : Prop} (h : p) : Hid p := h
theorem ret_int {k : IntKind} {a b : Int} (h : a = b) : Ending.returned (.int k a) = .returned (.int k b) := by rw [h]
theorem ret_2int {k l : IntKind} {a b c d : Int} (h : a = b) (h' : c = d) : Ending.returned (.tuple #[.int k a, .int l c]) = .returned (.tuple #[.int k b, .int l d]) := by rw [h, h']
theorem ret_bool {a b : Bool} (h : a = b) : Ending.returned (.bool a) = .returned (.bool b) := by rw [h]
theorem run_index_arr {P : Program} {t e : TypeId} {n : Nat} {i : TypeInfo} (ht : P.underlying t = some (.array n e)) (he : P.plainKey e = true) (hi : P.info? e = some i) (hs : P.cellsOf e = 1)
  (cs : Array Value) (k : Nat) (hk : k < n) (v : Value) (hv : cs[k]? = some v) (w : World) : Sem.run P (Instr.index t (.agg cs) (.int .i64 k)) w = .ok v w := by
 have h1 : (0 : Int) ≤ (k : Int) ∧ (k : Int) < (n : Int) := by omega
 have hp := run_part_plain (w := w) he (xs := cs) (off := k) hv
 simp [Instr.index, asIntOf, run_underlying ht, run_sizeOf w hi, hs, hp, hk]
theorem toList_mk (l : List UInt8) : (⟨l.toArray⟩ : ByteArray).toList = l := by rw [ByteArray.toList_eq]

end Go.Proofs.Ytcjgagmcnmmfoaa

namespace Go.Proofs.Ytcjgagmcnmmfoaa
open Go.RowKit

def El (P : Program) (t e : TypeId) (z : Value) (size bytes : Nat) : Prop :=
 ∃ i, P.underlying t = some (.slice e) ∧ P.info? e = some i ∧ i.zero = some z ∧ i.size = size ∧ i.bytes = bytes ∧ z.cells.size = size ∧ 0 < size
theorem El.mk_ {P : Program} {t e : TypeId} {z : Value} {size bytes : Nat} (ht : P.underlying t = some (.slice e)) (h : (P.info? e).map (fun i => (i.zero, i.size, i.bytes)) = some (some z, size, bytes)) (hz : z.cells.size = size) (hs : 0 < size) : El P t e z size bytes := by
 obtain ⟨i, h1, h2, h3, h4⟩ := info_parts h
 exact ⟨i, ht, h1, h2, h3, h4, hz, hs⟩

theorem cell_of_alloc (w : World) (cs : Array Value) (T : TypeId) (j : Nat) : (w.alloc (.cells cs T)).cell? ((⟨w.heap.size, 0, none⟩ : Addr).add j) = cs[j]? := by
 unfold Addr.add
 by_cases hj : j = 0
 ·subst hj; simp
 ·simp [hj]

theorem own_form {w : World} {base : Nat} {e : TypeId} {size n : Nat} {v : Value} {xs : List Value} (h : w.ownsRow base e size v n xs) : ∃ A c, v = .slice A n c := by
 rcases h.2 with ⟨rfl, h0⟩ | ⟨g, cap, cur, rfl, _⟩
 ·exact ⟨none, 0, by rw [h0]⟩
 ·exact ⟨_, cap, rfl⟩
theorem below_cells {B : Nat} {W w1 : World} (hb : Below B W w1) : (∀ b o, b < B → w1.cell? ⟨b, o, none⟩ = W.cell? ⟨b, o, none⟩) ∧ (∀ b o, b < B → w1.frozen? ⟨b, o, none⟩ = W.frozen? ⟨b, o, none⟩) :=
 ⟨fun b o h => Below.cell (p := ⟨b, o, none⟩) hb h, fun b o h => Below.frozen (p := ⟨b, o, none⟩) hb h⟩
theorem own_base {w : World} {b B : Nat} {e : TypeId} {size n : Nat} {v : Value} {xs : List Value} (hb : b ≤ B) (h : w.ownsRow B e size v n xs) : w.ownsRow b e size v n xs := by
 obtain ⟨h1, h2⟩ := h
 refine ⟨h1, ?_⟩
 rcases h2 with h2 | ⟨g, cap, cur, hv, hg, r⟩
 ·exact .inl h2
 ·exact .inr ⟨g, cap, cur, hv, by omega, r⟩
def Moved (w : World) (v v' : Value) : Prop := v'.ownBlock = v.ownBlock ∨ ∃ k, v'.ownBlock = some k ∧ w.heap.size ≤ k

theorem own_below {w w' : World} {base : Nat} {e : TypeId} {size n : Nat} {v : Value} {xs : List Value} (hown : w.ownsRow base e size v n xs) (hg : w.grownBy w' v.ownBlock) (hb : base ≤ w.heap.size) : Below base w w' :=
 (Below.refl _ _).grown hg hb (fun k hk => (hown.lt k hk).1)

section
variable {P : Program} {w0 : World} {ops : Array Oper} {rest : List Oper} {o : Oper} {a : Act} {Q : Exit → Act → World → Prop}
variable {t e : TypeId} {z : Value} {size bytes base : Nat} {v : Value} {n : Nat} {xs : List Value}

theorem app_lit (E : El P t e z size bytes) (hgd : o.guard = none) (s x : Operand) (ho : o.op = .call { callee := .builtin .append, args := #[s, x], argTypes := #[t, t] })
  (hown : w0.ownsRow base e size v n xs) (hs : a.eval s = v) (cs : Array Value) (T : TypeId) (m c : Nat) (hx : a.eval x = .slice (some ⟨w0.heap.size, 0, none⟩) m c) (hl : cs.size = m * size)
  (h1 : ∀ u ∈ cs.toList, u.oneCell' = true) (h63 : n + m ≤ maxLen) (hbytes : (n + m) * bytes ≤ 140737488355328) (hbase : base ≤ w0.heap.size)
  (h : ∀ v' w', w'.ownsRow base e size v' (n + m) (xs ++ cs.toList) → w0.grownBy w' v.ownBlock → Moved w0 v v' → (v' = .slice none 0 0 ↔ v = .slice none 0 0 ∧ m = 0) → Below base w0 w' → wpList P ops Q rest (a.put o.dst v') w') :
  wpList P ops Q (o :: rest) a (w0.alloc (.cells cs T)) := by
 obtain ⟨i, ht, hi, hz, hsz, hby, hzs, h0⟩ := E
 obtain ⟨v', w', hrun, g1, g2, g3, g4⟩ := run_append_own_at (P := P) (w0.alloc (.cells cs T)) base t o.type e i z size bytes ht hi hz hsz hby hzs h0 v n xs (hown.alloc _) ⟨w0.heap.size, 0, none⟩ m c cs.toList (by simpa using hl)
  (fun j u hj => by rw [cell_of_alloc]; simpa using hj) h1 h63 hbytes (by simp; omega)
 have hg : w0.grownBy w' v.ownBlock := by
  refine ⟨g2.os, g2.tape, g2.output, Nat.le_trans (by simp) g2.size, fun k hk hne => ?_⟩
  rw [g2.block k (by simp; omega) hne, Below.heap_alloc _ _ _ hk]
 refine wpList_plain hgd fun K hK => ?_
 unfold Oper.wp execOp
 simp only [ho, resolve, invoke, builtin, Sem.run_bind, Sem.run_pure, Result.andThen_ok, List.map_toArray, List.map_cons, List.map_nil, hs, hx, hrun]
 refine hK _ _ (h v' w' g1 hg ?_ g3 (own_below hown hg hbase))
 rcases g4 with g4 | g4
 ·exact .inl g4
 ·exact .inr ⟨_, g4, by simp⟩

theorem app_lit_at (H : Nat) (hH : w0.heap.size = H) (E : El P t e z size bytes) (hgd : o.guard = none) (s x : Operand) (ho : o.op = .call { callee := .builtin .append, args := #[s, x], argTypes := #[t, t] })
  (hown : w0.ownsRow base e size v n xs) (hs : a.eval s = v) (cs : Array Value) (T : TypeId) (m c : Nat) (hx : a.eval x = .slice (some ⟨H, 0, none⟩) m c) (hl : cs.size = m * size)
  (h1 : ∀ u ∈ cs.toList, u.oneCell' = true) (h63 : n + m ≤ maxLen) (hbytes : (n + m) * bytes ≤ 140737488355328) (hbase : base ≤ w0.heap.size)
  (h : ∀ v' w', w'.ownsRow base e size v' (n + m) (xs ++ cs.toList) → w0.grownBy w' v.ownBlock → Moved w0 v v' → Below base w0 w' → wpList P ops Q rest (a.put o.dst v') w') :
  wpList P ops Q (o :: rest) a (w0.alloc (.cells cs T)) := by
 subst hH
 exact app_lit E hgd s x ho hown hs cs T m c hx hl h1 h63 hbytes hbase (fun v' w' g1 g2 g3 _ g5 => h v' w' g1 g2 g3 g5)
theorem run_app (E : El P t e z size bytes) (ty : TypeId) (hown : w0.ownsRow base e size v n xs) (news : List Value) (A : Option Addr) (m c : Nat) (hl : news.length = m * size)
  (hcell : 0 < m → ∃ ad, A = some ad ∧ ∀ j u, news[j]? = some u → w0.cell? (ad.add j) = some u)
  (h1 : ∀ u ∈ news, u.oneCell' = true) (h63 : n + m ≤ maxLen) (hbytes : (n + m) * bytes ≤ 140737488355328) (hbase : base ≤ w0.heap.size) :
  ∃ v' w', (Builtin.append_ #[t, t] ty #[v, .slice A m c]).run P w0 = .ok v' w' ∧ w'.ownsRow base e size v' (n + m) (xs ++ news) ∧ w0.grownBy w' v.ownBlock ∧ Moved w0 v v' ∧ Below base w0 w' := by
 obtain ⟨i, ht, hi, hz, hsz, hby, hzs, h0⟩ := E
 cases A with
 | none =>
  have hm : m = 0 := by
   rcases Nat.eq_zero_or_pos m with hm | hm
   ·exact hm
   ·obtain ⟨_, h, _⟩ := hcell hm; cases h
  subst hm
  obtain rfl : news = [] := List.eq_nil_of_length_eq_zero (by simpa using hl)
  have hg := World.grownBy.refl w0 v.ownBlock
  refine ⟨v, w0, ?_, by simpa using hown, hg, .inl rfl, own_below hown hg hbase⟩
  rcases hown.2 with ⟨rfl, rfl⟩ | ⟨g, cap, cur, rfl, _, _, hnc, _⟩
  ·simp [Builtin.append_, run_underlying ht, sizeOf, typeInfo, hi, Builtin.lenOf, Builtin.firstCells]
  ·simp [Builtin.append_, run_underlying ht, sizeOf, typeInfo, hi, Builtin.lenOf, Builtin.firstCells, hnc, storeCells]
 | some ad =>
  have hc : ∀ j u, news[j]? = some u → w0.cell? (ad.add j) = some u := by
   intro j u hu
   rcases Nat.eq_zero_or_pos m with hm | hm
   ·subst hm
    obtain rfl : news = [] := List.eq_nil_of_length_eq_zero (by simpa using hl)
    simp at hu
   ·obtain ⟨_, h, hc⟩ := hcell hm
    cases h; exact hc j u hu
  obtain ⟨v', w', g1, g2, g3, _, g4⟩ := run_append_own_at (P := P) w0 base t ty e i z size bytes ht hi hz hsz hby hzs h0 v n xs hown ad m c news hl hc h1 h63 hbytes hbase
  refine ⟨v', w', g1, g2, g3, ?_, own_below hown g3 hbase⟩
  rcases g4 with g4 | g4
  ·exact .inl g4
  ·exact .inr ⟨_, g4, Nat.le_refl _⟩
end

end Go.Proofs.Ytcjgagmcnmmfoaa

namespace Go.Proofs.Ytcjgagmcnmmfoaa
open Go.RowKit Go.ChangeShapes Go.WideShapes Go.Deep

section
variable {H : Type} {enc : TypeId × Value → H} {W : World} {base : Nat} {v : Value} {d : DataW H} {p : List MemPlace}
end
end Go.Proofs.Ytcjgagmcnmmfoaa

namespace Go.Proofs.Ytcjgagmcnmmfoaa
open Go.RowKit Go.ChangeShapes Go.WideShapes Go.Deep

def okI (n : Int) : Prop := -9223372036854775808 ≤ n ∧ n ≤ 9223372036854775807
def intV (n : Int) : Value := .int .i64 n
theorem elInt : El Try.prog 31 3 (.int .i64 0) 1 8 := El.mk_ Try.underlying31 (by kernel_rfl) rfl (by omega)
def RdInts (w : World) (v : Value) (xs : List Int) : Prop :=
 xs.length * 8 ≤ 140737488355328 ∧ (∀ x ∈ xs, okI x) ∧ ∃ A c, v = .slice A xs.length c ∧ xs.length ≤ c ∧ (0 < xs.length → ∃ b off, A = some ⟨b, off, none⟩ ∧ b < w.heap.size ∧ ∀ j, j < xs.length → w.cell? ⟨b, off + j, none⟩ = some (intV (xs.getD j 0)))
theorem RdInts.kp {w w' : World} {v : Value} {xs : List Int} (h : RdInts w v xs) (hk : Kp w w') : RdInts w' v xs := by
 obtain ⟨h0, hr, A, c, h1, h2, h3⟩ := h
 refine ⟨h0, hr, A, c, h1, h2, fun hp => ?_⟩
 obtain ⟨b, off, e, hb, hc⟩ := h3 hp
 exact ⟨b, off, e, Nat.lt_of_lt_of_le hb hk.le, fun j hj => (hk.cells.1 _ _ hb).trans (hc j hj)⟩
theorem RdInts.form {w : World} {v : Value} {xs : List Int} (h : RdInts w v xs) : ∃ A c, v = .slice A xs.length c := by obtain ⟨_, _, A, c, e, _⟩ := h; exact ⟨A, c, e⟩
theorem RdInts.drewN {w : World} {v : Value} {xs : List Int} (h : RdInts w v xs) (n : Nat) : RdInts (w.drewN n) v xs := h
theorem RdInts.drew {w : World} {v : Value} {xs : List Int} (h : RdInts w v xs) : RdInts w.drew v xs := h
theorem RdInts.nil_ (w : World) : RdInts w (.slice none 0 0) [] := ⟨by simp, fun x hx => by simp at hx, none, 0, rfl, Nat.le_refl _, fun h => absurd h (by simp)⟩
theorem RdInts.src {w : World} {A : Option Addr} {n c : Nat} {xs : List Int} (h : RdInts w (.slice A n c) xs) : n = xs.length ∧ (0 < n → ∃ ad, A = some ad ∧ ∀ j u, (xs.map intV)[j]? = some u → w.cell? (ad.add j) = some u) := by
 obtain ⟨_, _, A', c', h1, h2, h3⟩ := h
 cases h1
 refine ⟨rfl, fun hp => ?_⟩
 obtain ⟨b, off, e, _, hc⟩ := h3 hp
 refine ⟨_, e, fun j u hu => ?_⟩
 have hj : j < xs.length := by
  rcases Nat.lt_or_ge j xs.length with h | h
  ·exact h
  ·rw [List.getElem?_eq_none (by simpa using h)] at hu; cases hu
 have ha : (⟨b, off, none⟩ : Addr).add j = ⟨b, off + j, none⟩ := by unfold Addr.add; split <;> simp_all
 rw [ha, hc j hj]
 rw [List.getElem?_map, List.getElem?_eq_getElem hj] at hu
 simp [List.getD, List.getElem?_eq_getElem hj] at hu ⊢
 exact hu
def OwnI (w : World) (base : Nat) (v : Value) (xs : List Int) : Prop := w.ownsRow base 3 1 v xs.length (xs.map intV)
theorem OwnI.nil (w : World) (base : Nat) : OwnI w base (.slice none 0 0) [] := World.ownsRow_nil _ _ _ _
theorem OwnI.rd {w : World} {base : Nat} {v : Value} {xs : List Int} (h : OwnI w base v xs) (hl : xs.length * 8 ≤ 140737488355328) (hr : ∀ x ∈ xs, okI x) : RdInts w v xs := by
 refine ⟨hl, hr, ?_⟩
 rcases h.2 with ⟨rfl, h0⟩ | ⟨g, cap, cur, rfl, _, hg, hnc, _, hsz, htk⟩
 ·exact ⟨none, 0, by rw [h0], by omega, fun h => absurd h (by omega)⟩
 ·refine ⟨_, cap, rfl, hnc, fun _ => ⟨g, 0, rfl, ?_, fun j hj => ?_⟩⟩
  ·rcases Nat.lt_or_ge g w.heap.size with h | h
   ·exact h
   ·rw [Array.getElem?_eq_none h] at hg; cases hg
  ·have hc : w.cell? ⟨g, 0 + j, none⟩ = cur[j]? := by simp [World.cell?, hg]
   rw [hc]
   have h3 : cur.toList[j]? = (xs.map intV)[j]? := by rw [← htk]; rw [List.getElem?_take]; rw [if_pos (by omega)]
   rw [Array.getElem?_toList] at h3
   rw [h3]
   simp [List.getD, List.getElem?_eq_getElem hj]
section
variable {H : Type} {enc : TypeId × Value → H} {W : World} {base : Nat} {v : Value} {d : DataW H} {p : List MemPlace}
end
end Go.Proofs.Ytcjgagmcnmmfoaa

namespace Go.Proofs.Ytcjgagmcnmmfoaa
open Go.RowKit Go.ChangeShapes Go.WideShapes Go.Deep

def RdL {α : Type} (el : World → List Value → α → Prop) (sz : Nat) (w : World) (v : Value) (l : List α) : Prop :=
 ∃ A c, v = .slice A l.length c ∧ l.length ≤ c ∧ ∀ i a, l[i]? = some a → ∃ b off cs, A = some ⟨b, off, none⟩ ∧ b < w.heap.size ∧ el w cs a ∧ cs.length = sz ∧ ∀ j, j < sz → w.cell? ⟨b, off + i * sz + j, none⟩ = cs[j]?
def ElKp {α : Type} (el : World → List Value → α → Prop) : Prop := ∀ w w' cs a, Kp w w' → el w cs a → el w' cs a
theorem RdL.kp {α : Type} {el : World → List Value → α → Prop} (hel : ElKp el) {sz : Nat} {w w' : World} {v : Value} {l : List α} (h : RdL el sz w v l) (hk : Kp w w') : RdL el sz w' v l := by
 obtain ⟨A, c, h1, h2, h3⟩ := h
 refine ⟨A, c, h1, h2, fun i a hi => ?_⟩
 obtain ⟨b, off, cs, e, hb, he, hl, hc⟩ := h3 i a hi
 exact ⟨b, off, cs, e, Nat.lt_of_lt_of_le hb hk.le, hel _ _ _ _ hk he, hl, fun j hj => (hk.cells.1 _ _ hb).trans (hc j hj)⟩
theorem RdL.nil_ {α : Type} (el : World → List Value → α → Prop) (sz : Nat) (w : World) : RdL el sz w (.slice none 0 0) ([] : List α) := ⟨none, 0, rfl, Nat.le_refl _, fun i a hi => by simp at hi⟩

section
variable {H : Type} {enc : TypeId × Value → H} {W : World}
end
end Go.Proofs.Ytcjgagmcnmmfoaa

namespace Go.Proofs.Ytcjgagmcnmmfoaa
open Go.RowKit

theorem cell_kp {w w' : World} {b o : Nat} {v : Value} (hk : Kp w w') (hb : b < w.heap.size) (h : w.cell? ⟨b, o, none⟩ = some v) : w'.cell? ⟨b, o, none⟩ = some v := (hk.cells.1 _ _ hb).trans h
def Chunk {α : Type} (el : World → List Value → α → Prop) (sz : Nat) (w : World) : List Value → List α → Prop
 | xs, [] => xs = []
 | xs, a :: l => ∃ cs r, xs = cs ++ r ∧ cs.length = sz ∧ el w cs a ∧ Chunk el sz w r l
theorem Chunk.append {α : Type} {el : World → List Value → α → Prop} {sz : Nat} {w : World} {ys : List Value} {m : List α} (hm : Chunk el sz w ys m) : ∀ {l : List α} {xs : List Value}, Chunk el sz w xs l → Chunk el sz w (xs ++ ys) (l ++ m)
 | [], xs, h => by unfold Chunk at h; subst h; exact hm
 | a :: l, xs, h => by
  obtain ⟨cs, r, rfl, h1, h2, h3⟩ := h
  exact ⟨cs, r ++ ys, by rw [List.append_assoc], h1, h2, Chunk.append hm h3⟩
theorem Chunk.one {α : Type} {el : World → List Value → α → Prop} {sz : Nat} {w : World} {cs : List Value} {a : α} (h : el w cs a) (hl : cs.length = sz) : Chunk el sz w cs [a] := ⟨cs, [], by simp, hl, h, rfl⟩
theorem Chunk.kp {α : Type} {el : World → List Value → α → Prop} (hel : ElKp el) {sz : Nat} {w w' : World} (hk : Kp w w') : ∀ {l : List α} {xs : List Value}, Chunk el sz w xs l → Chunk el sz w' xs l
 | [], xs, h => h
 | a :: l, xs, h => by
  obtain ⟨cs, r, rfl, h1, h2, h3⟩ := h
  exact ⟨cs, r, rfl, h1, hel _ _ _ _ hk h2, Chunk.kp hel hk h3⟩
theorem Chunk.mono {α : Type} {el el' : World → List Value → α → Prop} {sz : Nat} {w w' : World} (hel : ∀ cs a, el w cs a → el' w' cs a) : ∀ {l : List α} {xs : List Value}, Chunk el sz w xs l → Chunk el' sz w' xs l
 | [], xs, h => h
 | a :: l, xs, h => by
  obtain ⟨cs, r, rfl, h1, h2, h3⟩ := h
  exact ⟨cs, r, rfl, h1, hel _ _ h2, Chunk.mono hel h3⟩
theorem Chunk.len {α : Type} {el : World → List Value → α → Prop} {sz : Nat} {w : World} : ∀ {l : List α} {xs : List Value}, Chunk el sz w xs l → xs.length = l.length * sz
 | [], xs, h => by unfold Chunk at h; subst h; simp
 | a :: l, xs, h => by
  obtain ⟨cs, r, rfl, h1, h2, h3⟩ := h
  have := Chunk.len h3
  rw [List.length_append, List.length_cons, Nat.add_mul]; omega
theorem Chunk.get {α : Type} {el : World → List Value → α → Prop} {sz : Nat} {w : World} : ∀ {l : List α} {xs : List Value} {i : Nat} {a : α}, Chunk el sz w xs l → l[i]? = some a → ∃ cs, el w cs a ∧ cs.length = sz ∧ ∀ j, j < sz → xs[i * sz + j]? = cs[j]?
 | [], xs, i, a, h, hi => by simp at hi
 | b :: l, xs, 0, a, h, hi => by
  obtain ⟨cs, r, rfl, h1, h2, h3⟩ := h
  simp only [List.getElem?_cons_zero, Option.some.injEq] at hi
  subst hi
  exact ⟨cs, h2, h1, fun j hj => by rw [Nat.zero_mul, Nat.zero_add, List.getElem?_append_left (by omega)]⟩
 | b :: l, xs, i + 1, a, h, hi => by
  obtain ⟨cs, r, rfl, h1, h2, h3⟩ := h
  rw [List.getElem?_cons_succ] at hi
  obtain ⟨cs', g1, g2, g3⟩ := Chunk.get h3 hi
  refine ⟨cs', g1, g2, fun j hj => ?_⟩
  rw [← g3 j hj, List.getElem?_append_right (by rw [Nat.add_mul]; omega)]
  congr 1; rw [Nat.add_mul]; omega
theorem Chunk.take {α : Type} {el : World → List Value → α → Prop} {sz : Nat} {w : World} : ∀ {l : List α} {xs : List Value} (n : Nat), Chunk el sz w xs l → Chunk el sz w (xs.take (n * sz)) (l.take n)
 | [], xs, n, h => by unfold Chunk at h; subst h; simp [Chunk]
 | a :: l, xs, 0, h => by simp [Chunk]
 | a :: l, xs, n + 1, h => by
  obtain ⟨cs, r, rfl, h1, h2, h3⟩ := h
  refine ⟨cs, r.take (n * sz), ?_, h1, h2, Chunk.take n h3⟩
  rw [List.take_append, h1, Nat.add_mul, Nat.one_mul, Nat.add_sub_cancel, List.take_of_length_le (by omega)]
theorem Chunk.set {α : Type} {el : World → List Value → α → Prop} {sz : Nat} {w : World} (j : Nat) (hj : j < sz) (u : Value) : ∀ {l : List α} {xs : List Value} {i : Nat} {a b : α}, Chunk el sz w xs l → l[i]? = some a → (∀ cs, el w cs a → cs.length = sz → el w (cs.set j u) b) → Chunk el sz w (xs.set (i * sz + j) u) (l.set i b)
 | [], xs, i, a, b, h, hi, _ => by simp at hi
 | c :: l, xs, 0, a, b, h, hi, hu => by
  obtain ⟨cs, r, rfl, h1, h2, h3⟩ := h
  simp only [List.getElem?_cons_zero, Option.some.injEq] at hi
  subst hi
  refine ⟨cs.set j u, r, ?_, by rw [List.length_set]; exact h1, hu cs h2 h1, h3⟩
  rw [Nat.zero_mul, Nat.zero_add, List.set_append_left _ _ (by omega)]
 | c :: l, xs, i + 1, a, b, h, hi, hu => by
  obtain ⟨cs, r, rfl, h1, h2, h3⟩ := h
  rw [List.getElem?_cons_succ] at hi
  refine ⟨cs, r.set (i * sz + j) u, ?_, h1, h2, Chunk.set j hj u h3 hi hu⟩
  rw [List.set_append_right _ _ (by rw [Nat.add_mul]; omega)]
  congr 2; rw [Nat.add_mul]; omega

def OwnL {α : Type} (el : World → List Value → α → Prop) (sz : Nat) (e : TypeId) (w : World) (base : Nat) (v : Value) (l : List α) : Prop := ∃ xs, w.ownsRow base e sz v l.length xs ∧ Chunk el sz w xs l
theorem OwnL.nil {α : Type} (el : World → List Value → α → Prop) (sz : Nat) (e : TypeId) (w : World) (base : Nat) : OwnL el sz e w base (.slice none 0 0) ([] : List α) := ⟨[], World.ownsRow_nil _ _ _ _, rfl⟩
theorem ownsRow_keep {w w' : World} {base : Nat} {e : TypeId} {size n : Nat} {v : Value} {xs : List Value} (h : w.ownsRow base e size v n xs) (hk : Kp w w') : w'.ownsRow base e size v n xs := by
 refine World.ownsRow.kept h (row := none) ⟨hk.os, hk.tape, hk.output, hk.size, fun k hk1 _ => hk.block k hk1⟩ ?_
 rcases h.2 with ⟨rfl, _⟩ | ⟨g, cap, cur, rfl, _⟩
 ·exact .inl rfl
 ·exact .inr (by simp [Value.ownBlock])
theorem OwnL.kp {α : Type} {el : World → List Value → α → Prop} (hel : ElKp el) {sz : Nat} {e : TypeId} {w w' : World} {base : Nat} {v : Value} {l : List α} (h : OwnL el sz e w base v l) (hk : Kp w w') : OwnL el sz e w' base v l := by
 obtain ⟨xs, h1, h2⟩ := h
 exact ⟨xs, ownsRow_keep h1 hk, h2.kp hel hk⟩
theorem OwnL.base_ {α : Type} {el : World → List Value → α → Prop} {sz : Nat} {e : TypeId} {w : World} {b B : Nat} {v : Value} {l : List α} (hb : b ≤ B) (h : OwnL el sz e w B v l) : OwnL el sz e w b v l := by
 obtain ⟨xs, h1, h2⟩ := h
 exact ⟨xs, own_base hb h1, h2⟩
theorem OwnL.mono {α : Type} {el el' : World → List Value → α → Prop} {sz : Nat} {e : TypeId} {w : World} {base : Nat} {v : Value} {l : List α} (hel : ∀ cs a, el w cs a → el' w cs a) (h : OwnL el sz e w base v l) : OwnL el' sz e w base v l := by
 obtain ⟨xs, h1, h2⟩ := h
 exact ⟨xs, h1, h2.mono hel⟩
theorem OwnL.rd {α : Type} {el : World → List Value → α → Prop} {sz : Nat} {e : TypeId} {w : World} {base : Nat} {v : Value} {l : List α} (h : OwnL el sz e w base v l) : RdL el sz w v l := by
 obtain ⟨xs, h1, h2⟩ := h
 rcases h1.2 with ⟨rfl, h0⟩ | ⟨g, cap, cur, rfl, _, hg, hnc, _, hsz, htk⟩
 ·obtain rfl := List.eq_nil_of_length_eq_zero h0
  exact RdL.nil_ _ _ _
 ·refine ⟨_, cap, rfl, hnc, fun i a hi => ?_⟩
  obtain ⟨cs, g1, g2, g3⟩ := h2.get hi
  have hil : i < l.length := by
   rcases Nat.lt_or_ge i l.length with h | h
   ·exact h
   ·rw [List.getElem?_eq_none h] at hi; cases hi
  refine ⟨g, 0, cs, rfl, (Array.getElem?_eq_some_iff.1 hg).1, g1, g2, fun j hj => ?_⟩
  have hc : w.cell? ⟨g, 0 + i * sz + j, none⟩ = cur[i * sz + j]? := by simp [World.cell?, hg]
  rw [hc, ← g3 j hj, ← htk, List.getElem?_take]
  have : i * sz + sz ≤ l.length * sz := by
   have := Nat.mul_le_mul_right sz (show i + 1 ≤ l.length from hil)
   rw [Nat.add_mul] at this; omega
  rw [if_pos (by omega), Array.getElem?_toList]
theorem OwnL.snoc {α : Type} {el : World → List Value → α → Prop} {sz : Nat} {e : TypeId} {w w' : World} {base : Nat} {v' : Value} {l : List α} {a : α} {n : Nat} {xs cs : List Value} (hn : n = l.length + 1) (hx : Chunk el sz w xs l) (hk : ∀ cs a, el w cs a → el w' cs a) (ha : el w' cs a) (hl : cs.length = sz) (h : w'.ownsRow base e sz v' n (xs ++ cs)) : OwnL el sz e w' base v' (l ++ [a]) := by
 subst hn
 exact ⟨xs ++ cs, by rw [List.length_append]; exact h, Chunk.append (Chunk.one ha hl) (hx.mono hk)⟩

def Touch (e : TypeId) (w w' : World) : Prop := w.heap.size ≤ w'.heap.size ∧ ∀ (k : Nat) (o : Obj), w.heap[k]? = some o → (∀ cs fr, o ≠ Obj.cells cs e fr) → w'.heap[k]? = some o
theorem Touch.refl (e : TypeId) (w : World) : Touch e w w := ⟨Nat.le_refl _, fun _ _ h _ => h⟩
theorem Touch.trans {e : TypeId} {a b c : World} (h : Touch e a b) (k : Touch e b c) : Touch e a c := ⟨Nat.le_trans h.1 k.1, fun i o h1 h2 => k.2 i o (h.2 i o h1 h2) h2⟩
theorem Touch.of_kp {e : TypeId} {w w' : World} (h : Kp w w') : Touch e w w' := ⟨h.le, fun k o h1 _ => by
 have hk : k < w.heap.size := (Array.getElem?_eq_some_iff.1 h1).1
 rw [h.block k hk]; exact h1⟩
theorem Touch.of_grown {e : TypeId} {w w' : World} {base size n : Nat} {v : Value} {xs : List Value} (h : w.ownsRow base e size v n xs) (hg : w.grownBy w' v.ownBlock) : Touch e w w' := by
 refine ⟨hg.size, fun k o h1 h2 => ?_⟩
 have hk : k < w.heap.size := (Array.getElem?_eq_some_iff.1 h1).1
 rw [hg.block k hk ?_]; · exact h1
 intro hc
 rcases h.2 with ⟨rfl, _⟩ | ⟨g, cap, cur, rfl, _, hgg, _⟩
 ·cases hc
 ·simp only [Value.ownBlock, Option.some.injEq] at hc
  subst hc
  rw [hgg] at h1
  exact h2 cur (0, 0) (Option.some.inj h1).symm
theorem ownsRow_touch {e e' : TypeId} (hne : e' ≠ e) {w w' : World} {base size n : Nat} {v : Value} {xs : List Value} (h : w.ownsRow base e' size v n xs) (ht : Touch e w w') : w'.ownsRow base e' size v n xs := by
 obtain ⟨h1, h2⟩ := h
 refine ⟨h1, ?_⟩
 rcases h2 with h2 | ⟨g, cap, cur, hv, hb, hg, r⟩
 ·exact .inl h2
 ·refine .inr ⟨g, cap, cur, hv, hb, ht.2 g _ hg (fun cs fr hc => ?_), r⟩
  injection hc with _ he _
  exact hne he

theorem take_snoc {α : Type} {l : List α} {k : Nat} {m : α} (h : l[k]? = some m) : l.take k ++ [m] = l.take (k + 1) := by
 rw [List.take_add_one, h]; rfl
theorem RdL.form {α : Type} {el : World → List Value → α → Prop} {sz : Nat} {w : World} {v : Value} {l : List α} (h : RdL el sz w v l) : ∃ A c, v = .slice A l.length c ∧ l.length ≤ c := by
 obtain ⟨A, c, h1, h2, _⟩ := h; exact ⟨A, c, h1, h2⟩
theorem RdL.mono {α : Type} {el el' : World → List Value → α → Prop} {sz : Nat} {w : World} {v : Value} {l : List α} (hel : ∀ cs a, el w cs a → el' w cs a) (h : RdL el sz w v l) : RdL el' sz w v l := by
 obtain ⟨A, c, h1, h2, h3⟩ := h
 refine ⟨A, c, h1, h2, fun i a hi => ?_⟩
 obtain ⟨b, off, cs, g1, g2, g3, g4⟩ := h3 i a hi
 exact ⟨b, off, cs, g1, g2, hel _ _ g3, g4⟩
theorem RdL.at_ {α : Type} {el : World → List Value → α → Prop} {sz : Nat} {w : World} {A : Option Addr} {n c : Nat} {l : List α} {i : Nat} {a : α} (h : RdL el sz w (.slice A n c) l) (hi : l[i]? = some a) : ∃ b off cs, A = some ⟨b, off, none⟩ ∧ b < w.heap.size ∧ el w cs a ∧ cs.length = sz ∧ ∀ j, j < sz → w.cell? ⟨b, off + i * sz + j, none⟩ = cs[j]? := by
 obtain ⟨A', c', h1, _, h3⟩ := h
 cases h1
 exact h3 i a hi
theorem RdL.take {α : Type} {el : World → List Value → α → Prop} {sz : Nat} {w : World} {A : Option Addr} {n c k : Nat} {l : List α} (h : RdL el sz w (.slice A n c) l) (hk : k ≤ l.length) : RdL el sz w (.slice A k c) (l.take k) := by
 obtain ⟨A', c', h1, h2, h3⟩ := h
 cases h1
 have hl : (l.take k).length = k := by rw [List.length_take]; omega
 refine ⟨A, c, by rw [hl], by omega, fun i a hi => ?_⟩
 rw [List.getElem?_take] at hi
 split at hi
 ·exact h3 i a hi
 ·cases hi
theorem RdL.src {α : Type} {el : World → List Value → α → Prop} {sz : Nat} {w : World} {A : Option Addr} {n c : Nat} {l : List α} (h : RdL el sz w (.slice A n c) l) :
  ∃ news, Chunk el sz w news l ∧ n = l.length ∧ (0 < n → ∃ ad, A = some ad ∧ ∀ j u, news[j]? = some u → w.cell? (ad.add j) = some u) := by
 have hn : n = l.length := by obtain ⟨_, _, h1, _⟩ := h; cases h1; rfl
 have key : ∀ k, k ≤ l.length → ∃ news, Chunk el sz w news (l.take k) ∧ ∀ j u, news[j]? = some u → ∃ b off, A = some ⟨b, off, none⟩ ∧ w.cell? ⟨b, off + j, none⟩ = some u := by
  intro k
  induction k with
  | zero => intro _; exact ⟨[], by simp [Chunk], fun j u hu => by simp at hu⟩
  | succ k ih =>
   intro hk
   obtain ⟨news, h1, h2⟩ := ih (by omega)
   obtain ⟨a, ha⟩ : ∃ a, l[k]? = some a := ⟨l[k], List.getElem?_eq_getElem (by omega)⟩
   obtain ⟨b, off, cs, rfl, hb, he, hl, hc⟩ := h.at_ ha
   refine ⟨news ++ cs, ?_, fun j u hu => ?_⟩
   ·rw [List.take_add_one, ha]; exact Chunk.append (Chunk.one he hl) h1
   ·have hlen := h1.len
    rw [List.length_take, Nat.min_eq_left (by omega)] at hlen
    rcases Nat.lt_or_ge j news.length with hj | hj
    ·rw [List.getElem?_append_left hj] at hu; exact h2 j u hu
    ·rw [List.getElem?_append_right hj] at hu
     have hj2 : j - news.length < sz := by
      rcases Nat.lt_or_ge (j - news.length) sz with h | h
      ·exact h
      ·rw [List.getElem?_eq_none (by omega)] at hu; cases hu
     refine ⟨b, off, rfl, ?_⟩
     rw [← hu, ← hc _ hj2]
     congr 2; omega
 obtain ⟨news, h1, h2⟩ := key l.length (Nat.le_refl _)
 rw [List.take_length] at h1
 refine ⟨news, h1, hn, fun hp => ?_⟩
 obtain ⟨a, ha⟩ : ∃ a, l[0]? = some a := ⟨l[0], List.getElem?_eq_getElem (by omega)⟩
 obtain ⟨b, off, cs, rfl, _⟩ := h.at_ ha
 refine ⟨_, rfl, fun j u hu => ?_⟩
 obtain ⟨b', off', e, hc⟩ := h2 j u hu
 cases e
 rw [← hc]; unfold Addr.add; split <;> simp_all
end Go.Proofs.Ytcjgagmcnmmfoaa

namespace Go.Proofs.Ytcjgagmcnmmfoaa
open Go.RowKit Go.ChangeShapes Go.WideShapes Go.Deep Go.Joins

structure TokenM where
 kind : Int
 text : ByteArray
 line : Int
 col : Int
def CeToken (w : World) (cs : List Value) (m : TokenM) : Prop := cs = [.int .i64 m.kind, .string m.text, .int .i64 m.line, .int .i64 m.col] ∧ okI m.kind ∧ m.text.size ≤ 140737488351232 ∧ okI m.line ∧ okI m.col
theorem CeToken.kp : ElKp CeToken := fun _ _ _ _ hk ⟨h, h0, h1, h2, h3⟩ => ⟨h, h0, h1, h2, h3⟩
def RdToken (w : World) (v : Value) (m : TokenM) : Prop := v = .agg #[.int .i64 m.kind, .string m.text, .int .i64 m.line, .int .i64 m.col] ∧ okI m.kind ∧ m.text.size ≤ 140737488351232 ∧ okI m.line ∧ okI m.col
theorem RdToken.kp {w w' : World} {v : Value} {m : TokenM} (h : RdToken w v m) (hk : Kp w w') : RdToken w' v m := by
 obtain ⟨h, h0, h1, h2, h3⟩ := h
 exact ⟨h, h0, h1, h2, h3⟩
theorem at_token {w : World} {A : Option Addr} {n c : Nat} {l : List TokenM} {i : Nat} {m : TokenM} (h : RdL CeToken 4 w (.slice A n c) l) (hi : l[i]? = some m) : ∃ b off, A = some ⟨b, off, none⟩ ∧ b < w.heap.size ∧ w.cell? ⟨b, off + i * 4, none⟩ = some (.int .i64 m.kind) ∧ w.cell? ⟨b, off + i * 4 + 1, none⟩ = some (.string m.text) ∧ w.cell? ⟨b, off + i * 4 + 2, none⟩ = some (.int .i64 m.line) ∧ w.cell? ⟨b, off + i * 4 + 3, none⟩ = some (.int .i64 m.col) ∧ okI m.kind ∧ m.text.size ≤ 140737488351232 ∧ okI m.line ∧ okI m.col := by
 obtain ⟨b, off, cs, g1, g2, g3, _, g4⟩ := h.at_ hi
 obtain ⟨rfl, h0, h1, h2, h3⟩ := g3
 exact ⟨b, off, g1, g2, g4 0 (by omega), g4 1 (by omega), g4 2 (by omega), g4 3 (by omega), h0, h1, h2, h3⟩
def PtToken (w : World) (v : Value) (m : TokenM) : Prop := ∃ b off, v = .pointer (some ⟨b, off, none⟩) ∧ b < w.heap.size ∧ w.cell? ⟨b, off, none⟩ = some (.int .i64 m.kind) ∧ w.cell? ⟨b, off + 1, none⟩ = some (.string m.text) ∧ w.cell? ⟨b, off + 2, none⟩ = some (.int .i64 m.line) ∧ w.cell? ⟨b, off + 3, none⟩ = some (.int .i64 m.col) ∧ okI m.kind ∧ m.text.size ≤ 140737488351232 ∧ okI m.line ∧ okI m.col
theorem PtToken.kp {w w' : World} {v : Value} {m : TokenM} (h : PtToken w v m) (hk : Kp w w') : PtToken w' v m := by
 obtain ⟨b, off, e, hb, g0, g1, g2, g3, h0, h1, h2, h3⟩ := h
 exact ⟨b, off, e, Nat.lt_of_lt_of_le hb hk.le, cell_kp hk hb g0, cell_kp hk hb g1, cell_kp hk hb g2, cell_kp hk hb g3, h0, h1, h2, h3⟩
theorem PtToken.rd {w : World} {b off : Nat} {m : TokenM} (h : PtToken w (.pointer (some ⟨b, off, none⟩)) m) : ∃ _u : Unit, RdToken w (.agg #[.int .i64 m.kind, .string m.text, .int .i64 m.line, .int .i64 m.col]) m ∧ w.cell? ⟨b, off, none⟩ = some (.int .i64 m.kind) ∧ w.cell? ⟨b, off + 1, none⟩ = some (.string m.text) ∧ w.cell? ⟨b, off + 2, none⟩ = some (.int .i64 m.line) ∧ w.cell? ⟨b, off + 3, none⟩ = some (.int .i64 m.col) := by
 obtain ⟨b', off', e, hb, g0, g1, g2, g3, h0, h1, h2, h3⟩ := h
 cases e
 exact ⟨(), ⟨rfl, h0, h1, h2, h3⟩, g0, g1, g2, g3⟩
@[go_sem] theorem field_token0 (x0 x1 x2 x3 : Value) (w : World) : Sem.run Try.prog (Instr.field 57 (.agg #[x0, x1, x2, x3]) 0) w = .ok (x0) w := by kernel_rfl
@[go_sem] theorem field_token1 (x0 x1 x2 x3 : Value) (w : World) : Sem.run Try.prog (Instr.field 57 (.agg #[x0, x1, x2, x3]) 1) w = .ok (x1) w := by kernel_rfl
@[go_sem] theorem field_token2 (x0 x1 x2 x3 : Value) (w : World) : Sem.run Try.prog (Instr.field 57 (.agg #[x0, x1, x2, x3]) 2) w = .ok (x2) w := by kernel_rfl
@[go_sem] theorem field_token3 (x0 x1 x2 x3 : Value) (w : World) : Sem.run Try.prog (Instr.field 57 (.agg #[x0, x1, x2, x3]) 3) w = .ok (x3) w := by kernel_rfl
section
variable {H : Type} {enc : TypeId × Value → H} {W : World} {base : Nat} {v : Value} {d : DataW H} {p : List MemPlace}
end
theorem elToken : El Try.prog 39 57 (.agg #[.int .i64 0, .string ⟨#[]⟩, .int .i64 0, .int .i64 0]) 4 40 := El.mk_ Try.underlying39 (by kernel_rfl) rfl (by omega)

end Go.Proofs.Ytcjgagmcnmmfoaa

namespace Go.Proofs.Ytcjgagmcnmmfoaa
open Go.RowKit

def byteV (b : UInt8) : Value := .int .u8 b.toNat
def OwnB (w : World) (base : Nat) (v : Value) (bs : List UInt8) : Prop := w.ownsRow base 5 1 v bs.length (bs.map byteV)
theorem elByte : El Try.prog 96 5 (.int .u8 0) 1 1 := El.mk_ Try.underlying96 (by kernel_rfl) rfl (by omega)
theorem OwnB.nil (w : World) (base : Nat) : OwnB w base (.slice none 0 0) [] := World.ownsRow_nil _ _ _ _
theorem OwnB.lit {w0 : World} {base : Nat} (cs : Array Value) (bs : List UInt8) (h : cs.toList = bs.map byteV) (hb : base ≤ w0.heap.size) (hm : bs.length ≤ maxLen) (n : Nat) (hn : n = bs.length) :
  OwnB (w0.alloc (.cells cs 5)) base (.slice (some ⟨w0.heap.size, 0, none⟩) n n) bs := by
 subst hn
 have hs : cs.size = bs.length * 1 := by have := congrArg List.length h; simpa using this
 have := World.ownsRow_lit (base := base) (e := 5) (size := 1) w0 cs bs.length hb hm hs
 unfold OwnB; rw [← h]; exact this
theorem oneByte (bs : List UInt8) : ∀ u ∈ bs.map byteV, u.oneCell' = true := by
 intro u hu; rw [List.mem_map] at hu; obtain ⟨b, _, rfl⟩ := hu; rfl
theorem app_bytes {w0 : World} {ops : Array Oper} {rest : List Oper} {o : Oper} {a : Act} {Q : Exit → Act → World → Prop} {base : Nat} {v : Value} {bs : List UInt8} (hgd : o.guard = none) (s x : Operand)
  (ho : o.op = .call { callee := .builtin .append, args := #[s, x], argTypes := #[96, 96] }) (hown : OwnB w0 base v bs) (hs : a.eval s = v) (cs : Array Value) (T : TypeId) (news : List UInt8) (m c : Nat)
  (hx : a.eval x = .slice (some ⟨w0.heap.size, 0, none⟩) m c) (hcs : cs.toList = news.map byteV) (hm : m = news.length) (hlen : bs.length + m ≤ 140737488355328) (hbase : base ≤ w0.heap.size)
  (h : ∀ v' w', OwnB w' base v' (bs ++ news) → w0.grownBy w' v.ownBlock → Below base w0 w' → wpList Try.prog ops Q rest (a.put o.dst v') w') : wpList Try.prog ops Q (o :: rest) a (w0.alloc (.cells cs T)) := by
 subst hm
 refine app_lit elByte hgd s x ho hown hs cs T _ c hx (by have := congrArg List.length hcs; simpa using this) (by rw [hcs]; exact oneByte _) (by unfold maxLen; omega) (by omega) hbase ?_
 intro v' w' g1 g2 _ _ g5
 refine h v' w' ?_ g2 g5
 unfold OwnB; rw [List.length_append, List.map_append, ← hcs]; exact g1
theorem OwnB.str {w : World} {base : Nat} {v : Value} {bs : List UInt8} (h : OwnB w base v bs) : Sem.run Try.prog (convert 96 9 v) w = .ok (.string ⟨bs.toArray⟩) w := by
 rcases h.2 with ⟨rfl, h0⟩ | ⟨g, cap, cur, rfl, _, hg, hnc, _, hsz, htk⟩
 ·have := run_convert_bytes_nil (P := Try.prog) w 96 5 Try.underlying96 Try.underlying5 0 0 9 Try.underlying9
  rw [this]
  obtain rfl : bs = [] := List.eq_nil_of_length_eq_zero h0
  rfl
 ·have hstr : strOfNums (bs.map fun b => (b.toNat : Int)) = ⟨bs.toArray⟩ := by
   have h1 : (strOfNums (bs.map fun b => (b.toNat : Int))).data.toList = bs := by
    rw [strOfNums_data, List.map_map]
    conv => rhs; rw [← List.map_id bs]
    apply List.map_congr_left; intro b _; simp
   cases h2 : strOfNums (bs.map fun b => (b.toNat : Int)) with | mk a => rw [h2] at h1; subst h1; simp
  rw [← hstr]
  refine run_convert_bytes_arg w 96 5 Try.underlying96 Try.underlying5 g 0 bs.length cap (bs.map fun b => (b.toNat : Int)) (by simp) (fun i hi => ?_) 9 Try.underlying9
  have hc : w.cell? ⟨g, 0 + i, none⟩ = cur[i]? := by simp [World.cell?, hg]
  rw [hc]
  have h3 : cur.toList[i]? = (bs.map byteV)[i]? := by rw [← htk]; rw [List.getElem?_take]; rw [if_pos (by omega)]
  rw [Array.getElem?_toList] at h3
  rw [h3]
  simp [byteV, List.getD, List.getElem?_eq_getElem hi]

end Go.Proofs.Ytcjgagmcnmmfoaa

namespace Go.Proofs.Ytcjgagmcnmmfoaa
open Go.RowKit

def escB (c : UInt8) : Option (List UInt8) :=
 if c = 34 ∨ c = 92 then some [92, c] else if c = 10 then some [92, 110] else if c = 9 then some [92, 116] else if 32 ≤ c.toNat ∧ c.toNat ≤ 126 then some [c] else none
def escs (l : List UInt8) : List UInt8 := l.flatMap fun c => (escB c).getD []
def okAll (l : List UInt8) : Prop := ∀ c ∈ l, escB c ≠ none
theorem escs_snoc (l : List UInt8) (c : UInt8) (r : List UInt8) (h : escB c = some r) : escs (l ++ [c]) = escs l ++ r := by simp [escs, h]
theorem escB_len (c : UInt8) : ((escB c).getD []).length ≤ 2 := by unfold escB; repeat' (split <;> try simp)
theorem escs_len : ∀ l : List UInt8, (escs l).length ≤ 2 * l.length
 | [] => by simp [escs]
 | c :: l => by
  have h1 := escB_len c
  have h2 := escs_len l
  simp only [escs, List.flatMap_cons, List.length_append, List.length_cons] at *
  omega
theorem qtake_snoc (s : ByteArray) (k : Nat) (h : k < s.size) : s.data.toList.take (k + 1) = s.data.toList.take k ++ [s[k]] := by
 rw [List.take_succ_eq_append_getElem (by simpa using h)]; rfl
theorem qtake_all (t : ByteArray) (k : Nat) (h : ¬ k < t.size) : t.data.toList.take k = t.data.toList := List.take_of_length_le (by rw [Array.length_toList]; exact Nat.le_of_not_lt h)
theorem okAll_snoc {l : List UInt8} {c : UInt8} (h : okAll l) (hc : escB c ≠ none) : okAll (l ++ [c]) := by
 intro x hx; rw [List.mem_append] at hx
 rcases hx with hx | hx
 ·exact h x hx
 ·obtain rfl : x = c := by simpa using hx
  exact hc
def QRel (s : ByteArray) (base : Nat) (w : World) (k : Nat) (v : Value) (wr : World) : Prop := OwnB wr base v (34 :: escs (s.data.toList.take k)) ∧ Below base w wr ∧ okAll (s.data.toList.take k)
theorem q_step {s : ByteArray} {base : Nat} {w : World} {k : Nat} {v v' : Value} {wr w' : World} (h : QRel s base w k v wr) (hk : k < s.size) (r : List UInt8) (hr : escB s[k] = some r) (h1 : OwnB w' base v' ((34 :: escs (s.data.toList.take k)) ++ r)) (h2 : Below base wr w') :
  QRel s base w (k + 1) v' w' := by
 refine ⟨?_, h.2.1.trans h2, ?_⟩
 ·rw [qtake_snoc s k hk, escs_snoc _ _ r hr]; exact h1
 ·rw [qtake_snoc s k hk]; exact okAll_snoc h.2.2 (by rw [hr]; simp)
theorem q_room {s : ByteArray} {k : Nat} (hs : s.size ≤ 200) : (34 :: escs (s.data.toList.take k)).length + 2 ≤ 140737488355328 ∧ (34 :: escs s.data.toList).length + 1 ≤ 140737488355328 := by
 have h1 := escs_len (s.data.toList.take k)
 have h0 := escs_len s.data.toList
 have h2 : (s.data.toList.take k).length ≤ s.data.toList.length := by rw [List.length_take]; omega
 have h3 : s.data.toList.length = s.size := Array.length_toList
 rw [h3] at h2 h0
 rw [List.length_cons, List.length_cons]; omega

def QPost (s : ByteArray) (w : World) (e : Ending) (w' : World) : Prop :=
 (okAll s.data.toList ∧ e = .returned (.tuple #[.string ⟨(34 :: (escs s.data.toList ++ [34])).toArray⟩, .int .i64 0]) ∨ ¬ okAll s.data.toList ∧ e = .returned (.tuple #[.string ⟨#[]⟩, .int .i64 4])) ∧ Kp w w'
theorem q_bad {s : ByteArray} {k : Nat} (hk : k < s.size) (h : escB s[k] = none) : ¬ okAll s.data.toList := by
 intro hok
 exact hok s[k] (by show s.data[k]'_ ∈ _; simp) h
theorem q_fin {s : ByteArray} {base : Nat} {w : World} {k : Nat} {v : Value} {wr : World} (h : QRel s base w k v wr) (hk : ¬ k < s.size) : OwnB wr base v (34 :: escs s.data.toList) ∧ Below base w wr ∧ okAll s.data.toList := by
 have := h; unfold QRel at this; rw [qtake_all s k hk] at this; exact this

def QTests (c : UInt8) : Prop := ((c.toNat : Int) == 34) = false ∧ ((c.toNat : Int) == 92) = false ∧ ((c.toNat : Int) == 10) = false ∧ ((c.toNat : Int) == 9) = false
theorem esc_cases (c : UInt8) : (c = 34 ∧ escB c = some [92, 34]) ∨ (c = 92 ∧ escB c = some [92, 92]) ∨ (c = 10 ∧ escB c = some [92, 110]) ∨ (c = 9 ∧ escB c = some [92, 116]) ∨
  (QTests c ∧ (32 : Int) ≤ c.toNat ∧ (c.toNat : Int) ≤ 126 ∧ escB c = some [c]) ∨ (QTests c ∧ ((c.toNat : Int) < 32 ∨ (126 : Int) < c.toNat) ∧ escB c = none) := by
 have hn : ∀ n : Nat, n < 256 → c ≠ UInt8.ofNat n → ((c.toNat : Int) == n) = false := by
  intro n hn h
  rw [beq_eq_false_iff_ne]
  intro h2
  apply h
  apply UInt8.toNat_inj.1
  rw [UInt8.toNat_ofNat']; omega
 by_cases h1 : c = 34
 ·subst h1; exact .inl ⟨rfl, rfl⟩
 by_cases h2 : c = 92
 ·subst h2; exact .inr (.inl ⟨rfl, rfl⟩)
 by_cases h3 : c = 10
 ·subst h3; exact .inr (.inr (.inl ⟨rfl, rfl⟩))
 by_cases h4 : c = 9
 ·subst h4; exact .inr (.inr (.inr (.inl ⟨rfl, rfl⟩)))
 have ht : QTests c := ⟨hn 34 (by omega) h1, hn 92 (by omega) h2, hn 10 (by omega) h3, hn 9 (by omega) h4⟩
 by_cases h5 : 32 ≤ c.toNat ∧ c.toNat ≤ 126
 ·exact .inr (.inr (.inr (.inr (.inl ⟨ht, by omega, by omega, by simp [escB, h1, h2, h3, h4, h5]⟩))))
 ·exact .inr (.inr (.inr (.inr (.inr ⟨ht, by omega, by unfold escB; rw [if_neg (by simp [h1, h2]), if_neg h3, if_neg h4, if_neg h5]⟩))))
theorem q_rel {s : ByteArray} {base : Nat} {w : World} {k : Nat} {v : Value} {wr : World} (hk : k < s.size) (h : QRel s base w (k + 1) v wr) : ∃ k' : Nat, k' ≤ s.size ∧ Value.int .i64 ((k : Int) + 1) = .int .i64 k' ∧ QRel s base w k' v wr := ⟨k + 1, by omega, by simp, h⟩

theorem quote_short (s : ByteArray) (w : World) (h : s.size ≤ 200) :
  Calls Try.prog 55 #[.string s] w (QPost s w) := by
 go_enter Try.func55, Try.ntmps55
 go_wp2
 go_loopw [4, 5] (fun v i wr => ∃ k : Nat, k ≤ s.size ∧ i = .int .i64 k ∧ QRel s w.heap.size w k v wr) (fun _ i _ => s.size - (intOf i).toNat)
 case atStart => exact ⟨0, by omega, rfl, ⟨OwnB.lit #[.int .u8 34] [34] rfl (Nat.le_refl _) (by decide) 1 rfl, (Kp.refl _).alloc _, by intro c hc; simp at hc⟩⟩
 case round =>
  obtain ⟨k, hk, rfl, hq⟩ := hrel
  have hroom := q_room (k := k) h
  have HQ := hid hq
  obtain ⟨hown, hbel, hok⟩ := hq
  clear hok
  have hsz := hbel.size
  by_cases hlt : k < s.size
  ·have hcs := esc_cases s[k]
   obtain ⟨c, hc⟩ : ∃ c, s[k] = c := ⟨_, rfl⟩
   have HC := hid hc
   rw [hc] at hcs
   rcases hcs with ⟨rfl, he⟩ | ⟨rfl, he⟩ | ⟨rfl, he⟩ | ⟨rfl, he⟩ | ⟨⟨t1, t2, t3, t4⟩, r1, r2, he⟩ | ⟨⟨t1, t2, t3, t4⟩, r1 | r1, he⟩
   ·clear he
    go_wp2_with (at_builtin; go_must (refine app_bytes rfl (.tmp 27) (.tmp 29) rfl hown rfl _ _ [92, 34] 2 2 rfl rfl rfl hroom.1 hsz ?_); intro v1 w1 hown1 hg1 hb1)
    go_roundw
    case rel => exact q_rel hlt (q_step HQ.out hlt [92, 34] (by rw [HC.out]; rfl) hown1 hb1)
    case measure => simp [intOf]; omega
   ·clear he
    go_wp2_with (at_builtin; go_must (refine app_bytes rfl (.tmp 27) (.tmp 29) rfl hown rfl _ _ [92, 92] 2 2 rfl rfl rfl hroom.1 hsz ?_); intro v1 w1 hown1 hg1 hb1)
    go_roundw
    case rel => exact q_rel hlt (q_step HQ.out hlt [92, 92] (by rw [HC.out]; rfl) hown1 hb1)
    case measure => simp [intOf]; omega
   ·clear he
    go_wp2_with (at_builtin; go_must (refine app_bytes rfl (.tmp 34) (.tmp 35) rfl hown rfl _ _ [92, 110] 2 2 rfl rfl rfl hroom.1 hsz ?_); intro v1 w1 hown1 hg1 hb1)
    go_roundw
    case rel => exact q_rel hlt (q_step HQ.out hlt [92, 110] (by rw [HC.out]; rfl) hown1 hb1)
    case measure => simp [intOf]; omega
   ·clear he
    go_wp2_with (at_builtin; go_must (refine app_bytes rfl (.tmp 40) (.tmp 41) rfl hown rfl _ _ [92, 116] 2 2 rfl rfl rfl hroom.1 hsz ?_); intro v1 w1 hown1 hg1 hb1)
    go_roundw
    case rel => exact q_rel hlt (q_step HQ.out hlt [92, 116] (by rw [HC.out]; rfl) hown1 hb1)
    case measure => simp [intOf]; omega
   ·have HE := hid he; clear he
    have hroom1 : (34 :: escs (s.data.toList.take k)).length + 1 ≤ 140737488355328 := by omega
    go_wp2_with (at_builtin; go_must (refine app_bytes rfl (.tmp 50) (.tmp 52) rfl hown rfl _ _ [c] 1 1 rfl rfl rfl hroom1 hsz ?_); intro v1 w1 hown1 hg1 hb1)
    go_roundw
    case rel => exact q_rel hlt (q_step HQ.out hlt [c] (by rw [HC.out]; exact HE.out) hown1 hb1)
    case measure => simp [intOf]; omega
   all_goals
    have HB := hid (q_bad hlt (by rw [hc]; exact he))
    clear he hown hroom
    go_wp2
    go_ret2
    exact ⟨.inr ⟨HB.out, rfl⟩, hbel⟩
  ·have hf := q_fin HQ.out hlt
   clear hown
   obtain ⟨hown, _, hok⟩ := hf
   have HO := hid hok
   clear hok
   go_wp2_with (at_builtin; go_must (refine app_bytes rfl (.tmp 54) (.tmp 55) rfl hown rfl _ _ [34] 1 1 rfl rfl rfl hroom.2 hsz ?_); intro v1 w1 hown1 hg1 hb1; have hcv := hown1.str)
   go_ret2
   exact ⟨.inl ⟨HO.out, rfl⟩, hbel.trans hb1⟩

end Go.Proofs.Ytcjgagmcnmmfoaa

namespace Go.Proofs.Ytcjgagmcnmmfoaa
open Go.RowKit

def unesc (d : UInt8) : Option UInt8 := if d = 110 then some 10 else if d = 116 then some 9 else if d = 34 then some 34 else if d = 92 then some 92 else none
def badU (c : UInt8) : Bool := c == 34 || decide (c.toNat < 32) || decide (126 < c.toNat)
def unq : List UInt8 → Option (List UInt8)
 | [] => some []
 | [c] => if badU c then none else if c = 92 then none else some [c]
 | c :: d :: r => if badU c then none else if c = 92 then (match unesc d with | none => none | some x => (unq r).map (x :: ·)) else (unq (d :: r)).map (c :: ·)
theorem unq_bad (c : UInt8) (r : List UInt8) (h : badU c = true) : unq (c :: r) = none := by
 cases r <;> simp [unq, h]
theorem unq_plain (c : UInt8) (r : List UInt8) (h : badU c = false) (h2 : c ≠ 92) : unq (c :: r) = (unq r).map (c :: ·) := by
 cases r <;> simp [unq, h, h2]
theorem unq_end (r : List UInt8) (h : r = []) : unq (92 :: r) = none := by subst h; rfl
theorem unq_esc (d x : UInt8) (r : List UInt8) (h : unesc d = some x) : unq (92 :: d :: r) = (unq r).map (x :: ·) := by
 have hb : badU 92 = false := by decide
 simp [unq, h, hb]
theorem unq_noesc (d : UInt8) (r : List UInt8) (h : unesc d = none) : unq (92 :: d :: r) = none := by
 have hb : badU 92 = false := by decide
 simp [unq, h, hb]
def UInv (t : ByteArray) (k : Nat) (bs : List UInt8) : Prop := unq t.data.toList = (unq (t.data.toList.drop k)).map (bs ++ ·) ∧ bs.length ≤ k
theorem udrop (t : ByteArray) (k : Nat) (h : k < t.size) : t.data.toList.drop k = t[k] :: t.data.toList.drop (k + 1) := by
 rw [List.drop_eq_getElem_cons (by rw [Array.length_toList]; exact h)]; rfl
theorem udrop_end (t : ByteArray) (k : Nat) (h : ¬ k < t.size) : t.data.toList.drop k = [] := List.drop_eq_nil_of_le (by rw [Array.length_toList]; exact Nat.le_of_not_lt h)
theorem map_map_app (o : Option (List UInt8)) (bs : List UInt8) (c : UInt8) : (o.map (c :: ·)).map (bs ++ ·) = o.map ((bs ++ [c]) ++ ·) := by cases o <;> simp
theorem u_plain {t : ByteArray} {k : Nat} {bs : List UInt8} (h : UInv t k bs) (hk : k < t.size) (c : UInt8) (hc : t[k] = c) (h1 : badU c = false) (h2 : c ≠ 92) : UInv t (k + 1) (bs ++ [c]) := by
 refine ⟨?_, by have := h.2; simp; omega⟩
 rw [h.1, udrop t k hk, hc, unq_plain c _ h1 h2, map_map_app]
theorem u_esc {t : ByteArray} {k : Nat} {bs : List UInt8} (h : UInv t k bs) (hk : k < t.size) (hk1 : k + 1 < t.size) (d x : UInt8) (hc : t[k] = 92) (hd : t[k + 1] = d) (hx : unesc d = some x) : UInv t (k + 2) (bs ++ [x]) := by
 refine ⟨?_, by have := h.2; simp; omega⟩
 rw [h.1, udrop t k hk, udrop t (k + 1) hk1, hc, hd, unq_esc d x _ hx, map_map_app]
theorem u_bad {t : ByteArray} {k : Nat} {bs : List UInt8} (h : UInv t k bs) (hk : k < t.size) (c : UInt8) (hc : t[k] = c) (h1 : badU c = true) : unq t.data.toList = none := by
 rw [h.1, udrop t k hk, hc, unq_bad c _ h1]; rfl
theorem u_noesc {t : ByteArray} {k : Nat} {bs : List UInt8} (h : UInv t k bs) (hk : k < t.size) (hk1 : k + 1 < t.size) (d : UInt8) (hc : t[k] = 92) (hd : t[k + 1] = d) (hx : unesc d = none) : unq t.data.toList = none := by
 rw [h.1, udrop t k hk, udrop t (k + 1) hk1, hc, hd, unq_noesc d _ hx]; rfl
theorem u_noend {t : ByteArray} {k : Nat} {bs : List UInt8} (h : UInv t k bs) (hk : k < t.size) (hk1 : ¬ k + 1 < t.size) (hc : t[k] = 92) : unq t.data.toList = none := by
 rw [h.1, udrop t k hk, hc, unq_end _ (udrop_end t (k + 1) hk1)]; rfl
theorem u_fin {t : ByteArray} {k : Nat} {bs : List UInt8} (h : UInv t k bs) (hk : ¬ k < t.size) : unq t.data.toList = some bs := by
 rw [h.1, udrop_end t k hk]; simp [unq]
theorem u_tests (c : UInt8) : (badU c = false ∧ ((c.toNat : Int) == 34) = false ∧ (32 : Int) ≤ c.toNat ∧ (c.toNat : Int) ≤ 126 ∧ ((c = 92 ∧ ((c.toNat : Int) == 92) = true) ∨ (c ≠ 92 ∧ ((c.toNat : Int) == 92) = false))) ∨
  (badU c = true ∧ (c = 34 ∨ ((c.toNat : Int) == 34) = false ∧ ((c.toNat : Int) < 32 ∨ ¬ (c.toNat : Int) < 32 ∧ (126 : Int) < c.toNat))) := by
 have hn : ∀ n : Nat, n < 256 → c ≠ UInt8.ofNat n → ((c.toNat : Int) == n) = false := by
  intro n hn h
  rw [beq_eq_false_iff_ne]
  intro h2
  apply h
  apply UInt8.toNat_inj.1
  rw [UInt8.toNat_ofNat']; omega
 by_cases h34 : c = 34
 ·subst h34; exact .inr ⟨rfl, .inl rfl⟩
 ·have e34 := hn 34 (by omega) h34
  by_cases hr : 32 ≤ c.toNat ∧ c.toNat ≤ 126
  ·refine .inl ⟨?_, e34, by omega, by omega, ?_⟩
   ·unfold badU; simp [h34]; omega
   ·by_cases h92 : c = 92
    ·subst h92; exact .inl ⟨rfl, rfl⟩
    ·exact .inr ⟨h92, hn 92 (by omega) h92⟩
  ·refine .inr ⟨?_, .inr ⟨e34, by omega⟩⟩
   unfold badU; simp; omega
theorem unesc_cases (d : UInt8) : (d = 110 ∧ unesc d = some 10) ∨ (d = 116 ∧ unesc d = some 9) ∨ (d = 34 ∧ unesc d = some 34) ∨ (d = 92 ∧ unesc d = some 92) ∨ ((d ≠ 110 ∧ d ≠ 116 ∧ d ≠ 34 ∧ d ≠ 92) ∧ unesc d = none) := by
 by_cases h1 : d = 110
 ·subst h1; exact .inl ⟨rfl, rfl⟩
 by_cases h2 : d = 116
 ·subst h2; exact .inr (.inl ⟨rfl, rfl⟩)
 by_cases h3 : d = 34
 ·subst h3; exact .inr (.inr (.inl ⟨rfl, rfl⟩))
 by_cases h4 : d = 92
 ·subst h4; exact .inr (.inr (.inr (.inl ⟨rfl, rfl⟩)))
 exact .inr (.inr (.inr (.inr ⟨⟨h1, h2, h3, h4⟩, by simp [unesc, h1, h2, h3, h4]⟩)))
def ixV (d : UInt8) : Int := Lib.indexByte [110, 116, 34, 92] d
theorem ix_any (d : UInt8) (w : World) : Calls Try.prog 46 #[.string ⟨#[110, 116, 34, 92]⟩, .int .u8 d.toNat] w fun e w' => e = .returned (.int .i64 (ixV d)) ∧ w = w' := by
 refine (Try.strings_IndexByte ⟨#[110, 116, 34, 92]⟩ d.toNat w).mono ?_
 rintro e w' ⟨rfl, rfl⟩
 refine ⟨ret_int ?_, rfl⟩
 have : ((d.toNat : Int).toNat.toUInt8) = d := by simp
 rw [this]; rfl
theorem uq_idx (i : Int) (k : Nat) (hik : i = k) (hk : k < 4) (x0 x1 x2 x3 v : Value) (hv : #[x0, x1, x2, x3][k]? = some v) (w : World) : Sem.run Try.prog (Instr.index 97 (.agg #[x0, x1, x2, x3]) (.int .i64 i)) w = .ok v w := by
 subst hik
 have hi : (Try.prog.info? 5).map (·.size) = some 1 := by kernel_rfl
 cases h : Try.prog.info? 5 with
 | none => rw [h] at hi; cases hi
 | some i =>
  rw [h] at hi
  exact run_index_arr Try.underlying97 (by unfold Program.plainKey; rw [Try.underlying5]) h (by unfold Program.cellsOf; rw [h]; simpa using hi) _ k hk _ hv w
theorem OwnB.form {w : World} {base : Nat} {v : Value} {bs : List UInt8} (h : OwnB w base v bs) : ∃ A c, v = .slice A bs.length c := by
 rcases h.2 with ⟨rfl, h0⟩ | ⟨g, cap, cur, rfl, _⟩
 ·exact ⟨none, 0, by rw [h0]⟩
 ·exact ⟨_, cap, rfl⟩
def UPost (t : ByteArray) (w : World) (e : Ending) (w' : World) : Prop :=
 ((∃ o, unq t.data.toList = some o ∧ o.length ≤ 200 ∧ e = .returned (.tuple #[.string ⟨o.toArray⟩, .int .i64 0])) ∨ (∀ o, unq t.data.toList = some o → 200 < o.length) ∧ e = .returned (.tuple #[.string ⟨#[]⟩, .int .i64 4])) ∧ Kp w w'
theorem up_none {t : ByteArray} {w w' : World} {e : Ending} (h : unq t.data.toList = none) (he : e = .returned (.tuple #[.string ⟨#[]⟩, .int .i64 4])) (hk : Kp w w') : UPost t w e w' := ⟨.inr ⟨(fun o ho => absurd (h.symm.trans ho) (by simp)), he⟩, hk⟩
def URel (t : ByteArray) (w : World) (k : Nat) (v : Value) (wr : World) : Prop := ∃ bs, OwnB wr w.heap.size v bs ∧ Below w.heap.size w wr ∧ UInv t k bs
theorem u_rel1 {t : ByteArray} {w wr : World} {k : Nat} {v : Value} (hk : k < t.size) (h : URel t w (k + 1) v wr) : ∃ k' : Nat, k' ≤ t.size ∧ Value.int .i64 ((k : Int) + 1) = .int .i64 k' ∧ URel t w k' v wr := ⟨k + 1, by omega, by simp, h⟩
theorem u_rel2 {t : ByteArray} {w wr : World} {k : Nat} {v : Value} (hk : k + 1 < t.size) (h : URel t w (k + 2) v wr) : ∃ k' : Nat, k' ≤ t.size ∧ Value.int .i64 ((k : Int) + 1 + 1) = .int .i64 k' ∧ URel t w k' v wr := ⟨k + 2, by omega, by congr 1, h⟩

theorem unquote_in (s t : ByteArray) (w : World) (h2 : 2 ≤ s.size) (hreach : s.size ≤ 140737488351232) (hf : s[0]'(by omega) = 34) (hl : s[s.size - 1]'(by omega) = 34) (ht : s.extract 1 (s.size - 1) = t) (hts : t.size + 2 = s.size) :
  Calls Try.prog 45 #[.string s] w (UPost t w) := by
 go_enter Try.func45, Try.ntmps45
 go_wp2
 go_loopw [4, 6] (fun v i wr => ∃ k : Nat, k ≤ t.size ∧ i = .int .i64 k ∧ URel t w k v wr) (fun _ i _ => t.size - (intOf i).toNat)
 case atStart => exact ⟨0, by omega, rfl, [], OwnB.nil _ _, Below.refl _ _, by simp [UInv]⟩
 case round =>
  obtain ⟨k, hk, rfl, bs, hown, hbel, hinv⟩ := hrel
  have HI := hid hinv
  have hbl := hinv.2
  clear hinv
  have hsz := hbel.size
  have hroom : bs.length + 1 ≤ 140737488355328 := by omega
  by_cases hlt : k < t.size
  ·obtain ⟨c, hc⟩ : ∃ c, t[k] = c := ⟨_, rfl⟩
   have HC := hid hc
   rcases u_tests c with ⟨hb, t1, t2, t3, ⟨rfl, t4⟩ | ⟨hne, t4⟩⟩ | ⟨hb, rfl | ⟨t1, t2 | ⟨t2, t3⟩⟩⟩
   ·clear hb t1 t2 t3 t4
    by_cases hlt1 : k + 1 < t.size
    ·obtain ⟨d, hd⟩ : ∃ d, t[k + 1] = d := ⟨_, rfl⟩
     have HD := hid hd
     rcases unesc_cases d with ⟨rfl, hx⟩ | ⟨rfl, hx⟩ | ⟨rfl, hx⟩ | ⟨rfl, hx⟩ | ⟨⟨d1, d2, d3, d4⟩, hx⟩
     ·clear hx
      have hi := fun w => uq_idx 0 0 rfl (by omega) (.int .u8 10) (.int .u8 9) (.int .u8 34) (.int .u8 92) _ rfl w
      have hix := fun w => ix_any 110 w
      rw [show ixV 110 = 0 by decide] at hix
      have HX := hid hix; clear hix
      go_wp2_with (first | (go_at_call 46; go_must (refine (HX.out _).mono ?_); rintro e w' ⟨rfl, rfl⟩) | (at_builtin; go_must (refine app_bytes rfl (.tmp 66) (.tmp 68) rfl hown rfl _ _ [10] 1 1 rfl rfl rfl hroom hsz ?_); intro v1 w1 hown1 hg1 hb1))
      go_roundw
      case rel => exact u_rel2 hlt1 ⟨_, hown1, hbel.trans hb1, u_esc HI.out hlt hlt1 _ _ HC.out HD.out rfl⟩
      case measure => simp [intOf]; omega
     ·clear hx
      have hi := fun w => uq_idx 1 1 rfl (by omega) (.int .u8 10) (.int .u8 9) (.int .u8 34) (.int .u8 92) _ rfl w
      have hix := fun w => ix_any 116 w
      rw [show ixV 116 = 1 by decide] at hix
      have HX := hid hix; clear hix
      go_wp2_with (first | (go_at_call 46; go_must (refine (HX.out _).mono ?_); rintro e w' ⟨rfl, rfl⟩) | (at_builtin; go_must (refine app_bytes rfl (.tmp 66) (.tmp 68) rfl hown rfl _ _ [9] 1 1 rfl rfl rfl hroom hsz ?_); intro v1 w1 hown1 hg1 hb1))
      go_roundw
      case rel => exact u_rel2 hlt1 ⟨_, hown1, hbel.trans hb1, u_esc HI.out hlt hlt1 _ _ HC.out HD.out rfl⟩
      case measure => simp [intOf]; omega
     ·clear hx
      have hi := fun w => uq_idx 2 2 rfl (by omega) (.int .u8 10) (.int .u8 9) (.int .u8 34) (.int .u8 92) _ rfl w
      have hix := fun w => ix_any 34 w
      rw [show ixV 34 = 2 by decide] at hix
      have HX := hid hix; clear hix
      go_wp2_with (first | (go_at_call 46; go_must (refine (HX.out _).mono ?_); rintro e w' ⟨rfl, rfl⟩) | (at_builtin; go_must (refine app_bytes rfl (.tmp 66) (.tmp 68) rfl hown rfl _ _ [34] 1 1 rfl rfl rfl hroom hsz ?_); intro v1 w1 hown1 hg1 hb1))
      go_roundw
      case rel => exact u_rel2 hlt1 ⟨_, hown1, hbel.trans hb1, u_esc HI.out hlt hlt1 _ _ HC.out HD.out rfl⟩
      case measure => simp [intOf]; omega
     ·clear hx
      have hi := fun w => uq_idx 3 3 rfl (by omega) (.int .u8 10) (.int .u8 9) (.int .u8 34) (.int .u8 92) _ rfl w
      have hix := fun w => ix_any 92 w
      rw [show ixV 92 = 3 by decide] at hix
      have HX := hid hix; clear hix
      go_wp2_with (first | (go_at_call 46; go_must (refine (HX.out _).mono ?_); rintro e w' ⟨rfl, rfl⟩) | (at_builtin; go_must (refine app_bytes rfl (.tmp 66) (.tmp 68) rfl hown rfl _ _ [92] 1 1 rfl rfl rfl hroom hsz ?_); intro v1 w1 hown1 hg1 hb1))
      go_roundw
      case rel => exact u_rel2 hlt1 ⟨_, hown1, hbel.trans hb1, u_esc HI.out hlt hlt1 _ _ HC.out HD.out rfl⟩
      case measure => simp [intOf]; omega
     ·have hix := fun w => ix_any d w
      rw [show ixV d = -1 by simp [ixV, Lib.indexByte, Ne.symm d1, Ne.symm d2, Ne.symm d3, Ne.symm d4]] at hix
      have HX := hid hix
      have HN := hid (u_noesc HI.out hlt hlt1 d HC.out HD.out hx)
      clear hix hx d1 d2 d3 d4
      go_wp2_with (go_at_call 46; go_must (refine (HX.out _).mono ?_); rintro e w' ⟨rfl, rfl⟩)
      go_ret2
      exact up_none HN.out rfl hbel
    ·have HN := hid (u_noend HI.out hlt hlt1 HC.out)
     go_wp2
     go_ret2
     exact up_none HN.out rfl hbel
   ·have HB := hid hb; have HE := hid hne
    clear hb hne
    go_wp2_with (at_builtin; go_must (refine app_bytes rfl (.tmp 66) (.tmp 68) rfl hown rfl _ _ [c] 1 1 rfl rfl rfl hroom hsz ?_); intro v1 w1 hown1 hg1 hb1)
    go_roundw
    case rel => exact u_rel1 hlt ⟨_, hown1, hbel.trans hb1, u_plain HI.out hlt c HC.out HB.out HE.out⟩
    case measure => simp [intOf]; omega
   all_goals
    have HN := hid (u_bad HI.out hlt _ HC.out hb)
    clear hb hown hroom hbl
    go_wp2
    go_ret2
    exact up_none HN.out rfl hbel
  ·obtain ⟨A, cp, rfl⟩ := hown.form
   have HF := hid (u_fin HI.out hlt)
   have hcv := hown.str
   by_cases hg : 200 < bs.length
   ·go_wp2
    go_ret2
    exact ⟨.inr ⟨(fun o ho => by have := HF.out.symm.trans ho; cases this; exact hg), rfl⟩, hbel⟩
   ·go_wp2
    go_ret2
    exact ⟨.inl ⟨bs, HF.out, by omega, rfl⟩, hbel⟩

end Go.Proofs.Ytcjgagmcnmmfoaa

namespace Go.Proofs.Ytcjgagmcnmmfoaa
open Go.RowKit

def TxRow (cs : Array Value) (k : Nat) (r : List UInt8) : Prop := cs.size = 20 ∧ k + r.length = 20 ∧ ∀ j, j < r.length → cs[k + j]? = some (.int .u8 (r.getD j 0).toNat)
def TxLeft (U v : Nat) (r : List UInt8) : Prop := Lib.decDigits U = Lib.decDigits v ++ r ∧ (0 < v ∨ r = []) ∧ v ≤ U

theorem dec_small (u : Nat) (h : u < 10) : Lib.decDigits u = [UInt8.ofNat (48 + u)] := by rw [Lib.decDigits, dif_pos h]
theorem dec_big (u : Nat) (h : ¬ u < 10) : Lib.decDigits u = Lib.decDigits (u / 10) ++ [UInt8.ofNat (48 + u % 10)] := by rw [Lib.decDigits, dif_neg h]
theorem dec_len : ∀ (k u : Nat), u < 10 ^ (k + 1) → (Lib.decDigits u).length ≤ k + 1
 | 0, u, h => by rw [dec_small u (by simpa using h)]; simp
 | k + 1, u, h => by
  by_cases hs : u < 10
  ·rw [dec_small u hs]; simp
  ·rw [dec_big u hs, List.length_append]
   have := dec_len k (u / 10) (by rw [Nat.pow_succ] at h; omega)
   simp; omega
theorem dec_pos (u : Nat) : 1 ≤ (Lib.decDigits u).length := by
 by_cases hs : u < 10
 ·rw [dec_small u hs]; simp
 ·rw [dec_big u hs]; simp
theorem tx_room {U v : Nat} {r : List UInt8} (h : TxLeft U v r) (hU : U ≤ 9223372036854775808) : r.length ≤ 18 := by
 have h1 := dec_len 18 U (by omega)
 have h2 := dec_pos v
 rw [h.1, List.length_append] at h1; omega
theorem tx_set {cs : Array Value} {k : Nat} {r : List UInt8} (h : TxRow cs k r) (hk : 1 ≤ k) (d : Nat) (hd : d < 256) : TxRow (cs.setIfInBounds (k - 1) (.int .u8 d)) (k - 1) (UInt8.ofNat d :: r) := by
 obtain ⟨h1, h2, h3⟩ := h
 refine ⟨by simpa using h1, by simp; omega, fun j hj => ?_⟩
 cases j with
 | zero =>
  rw [Nat.add_zero, Array.getElem?_setIfInBounds_self_of_lt (by omega)]
  simp [UInt8.toNat_ofNat_of_lt' (show d < UInt8.size by simpa [UInt8.size] using hd)]
 | succ j =>
  have e : k - 1 + (j + 1) = k + j := by omega
  rw [e, Array.getElem?_setIfInBounds_ne (by omega)]
  simpa using h3 j (by simpa using hj)
theorem tx_next {U v : Nat} {r : List UInt8} (h : TxLeft U v r) (hv : ¬ v < 10) : TxLeft U (v / 10) (UInt8.ofNat (48 + v % 10) :: r) := by
 obtain ⟨h1, h2, h3⟩ := h
 refine ⟨by rw [h1, dec_big v hv]; simp, by omega, by omega⟩
theorem tx_last {U v : Nat} {r : List UInt8} (h : TxLeft U v r) (hv : v < 10) : UInt8.ofNat (48 + v % 10) :: r = Lib.decDigits U := by
 rw [h.1, dec_small v hv, Nat.mod_eq_of_lt hv]; rfl
def txNums (r : List UInt8) : List Int := r.map fun b => (b.toNat : Int)
theorem tx_str (r : List UInt8) : (strOfNums (txNums r)).data.toList = r := by
 rw [strOfNums_data]; unfold txNums; rw [List.map_map]
 conv => rhs; rw [← List.map_id r]
 apply List.map_congr_left; intro b _; simp
theorem tx_str' (r : List UInt8) : strOfNums (txNums r) = ⟨r.toArray⟩ := by
 have := tx_str r
 cases h : strOfNums (txNums r) with | mk a => rw [h] at this; subst this; simp
theorem tx_conv {cs : Array Value} {k : Nat} {r : List UInt8} (h : TxRow cs k r) (w : World) (t : TypeId) :
  Sem.run Try.prog (convert 96 9 (.slice (some ⟨w.heap.size, k, none⟩) (20 - k) (20 - k))) (w.alloc (.cells cs t)) = .ok (.string ⟨r.toArray⟩) (w.alloc (.cells cs t)) := by
 obtain ⟨h1, h2, h3⟩ := h
 have hl : 20 - k = r.length := by omega
 rw [hl, ← tx_str']
 refine run_convert_bytes_arg (w.alloc (.cells cs t)) 96 5 Try.underlying96 Try.underlying5 w.heap.size k r.length r.length (txNums r) (by simp [txNums]) (fun i hi => ?_) 9 Try.underlying9
 rw [World.cell?_alloc_new]
 rw [h3 i hi]; simp [txNums]
 rw [List.getElem?_eq_getElem hi]; rfl

theorem tx_slice (w1 : World) (b : Nat) (l : Int) (k : Nat) (hl : l = k) (hk : k < 20) :
  Sem.run Try.prog (Instr.sliceAt 104 (.pointer (some ⟨b, 0, none⟩)) (some (.int .i64 l)) none none) w1 = .ok (.slice (some ⟨b, k, none⟩) (20 - k) (20 - k)) w1 := by
 have ha : Try.prog.arrayLen 104 = 20 := by kernel_rfl
 have he : Try.prog.elem 104 = 5 := by kernel_rfl
 have hs : (sizeOf 5).run Try.prog w1 = .ok 1 w1 := by kernel_rfl
 subst hl
 rw [run_sliceAt_array_l w1 104 ⟨b, 0, none⟩ (by rw [ha, he]; exact Try.underlying104) .i64 k (by omega) (by rw [ha]; omega), he, hs, ha]
 have hne : ¬ 20 = k := by omega
 simp [slicedAt, Result.andThen, hne, Addr.add]
 intro h; omega
theorem tx_end {cs : Array Value} {k v n : Nat} {r : List UInt8} (hrow : TxRow cs k r) (hk : 2 ≤ k) (hleft : TxLeft n v r) (hv : v < 10) (w : World) :
  Sem.run Try.prog (convert 96 9 (.slice (some ⟨w.heap.size, k - 1, none⟩) (20 - (k - 1)) (20 - (k - 1)))) (w.alloc (.cells (cs.setIfInBounds (k - 1) (.int .u8 (48 + (v : Int) % 10))) 104)) = .ok (.string ⟨(Lib.decDigits n).toArray⟩) (w.alloc (.cells (cs.setIfInBounds (k - 1) (.int .u8 (48 + (v : Int) % 10))) 104)) := by
 have h := tx_conv (tx_set hrow (by omega) (48 + v % 10) (by omega)) w 104
 rw [tx_last hleft hv] at h
 exact h
theorem tx_end_neg {cs : Array Value} {k v n : Nat} {r : List UInt8} (hrow : TxRow cs k r) (hk : 2 ≤ k) (hleft : TxLeft n v r) (hv : v < 10) (w : World) :
  Sem.run Try.prog (convert 96 9 (.slice (some ⟨w.heap.size, k - 1 - 1, none⟩) (20 - (k - 1 - 1)) (20 - (k - 1 - 1)))) (w.alloc (.cells ((cs.setIfInBounds (k - 1) (.int .u8 (48 + (v : Int) % 10))).setIfInBounds (k - 1 - 1) (.int .u8 45)) 104)) = .ok (.string ⟨(45 :: Lib.decDigits n).toArray⟩) (w.alloc (.cells ((cs.setIfInBounds (k - 1) (.int .u8 (48 + (v : Int) % 10))).setIfInBounds (k - 1 - 1) (.int .u8 45)) 104)) := by
 have h1 := tx_set hrow (by omega) (48 + v % 10) (by omega)
 rw [tx_last hleft hv] at h1
 have h := tx_conv (tx_set h1 (by omega) 45 (by omega)) w 104
 exact h
theorem tx_round {cs : Array Value} {k v n : Nat} {r : List UInt8} (hrow : TxRow cs k r) (hk : 2 ≤ k) (hleft : TxLeft n v r) (hv : ¬ v < 10) (w : World) :
  ∃ (k' v' : Nat) (r' : List UInt8) (cs' : Array Value), Value.int .i64 ((k : Int) - 1) = .int .i64 k' ∧ Value.int .u64 ((v : Int) / 10) = .int .u64 v' ∧ TxRow cs' k' r' ∧ TxLeft n v' r' ∧ w.alloc (.cells (cs.setIfInBounds (k - 1) (.int .u8 (48 + (v : Int) % 10))) 104) = w.alloc (.cells cs' 104) := by
 refine ⟨k - 1, v / 10, UInt8.ofNat (48 + v % 10) :: r, _, ?_, by simp, tx_set hrow (by omega) (48 + v % 10) (by omega), tx_next hleft hv, ?_⟩
 ·have : (((k - 1 : Nat)) : Int) = (k : Int) - 1 := by omega
  rw [this]
 ·rfl

theorem text_nonneg (n : Nat) (w : World) (h : n ≤ 9223372036854775807) :
  Calls Try.prog 58 #[.int .i64 n] w fun e w' => e = .returned (.string ⟨(Lib.decDigits n).toArray⟩) ∧ Kp w w' := by
 go_enter Try.func58, Try.ntmps58
 go_wp2
 go_loopw [4, 5] (fun i u wr => ∃ (k v : Nat) (r : List UInt8) (cs : Array Value), i = .int .i64 k ∧ u = .int .u64 v ∧ TxRow cs k r ∧ TxLeft n v r ∧ wr = w.alloc (.cells cs 104))
  (fun _ u _ => (intOf u).toNat)
 case atStart => exact ⟨20, n, [], _, rfl, rfl, ⟨rfl, rfl, fun j hj => by simp at hj⟩, ⟨by simp, Or.inr rfl, Nat.le_refl _⟩, rfl⟩
 case round =>
  obtain ⟨k, v, r, cs, rfl, rfl, hrow, hleft, rfl⟩ := hrel
  have hr := tx_room hleft (by omega)
  have hk : 2 ≤ k ∧ k ≤ 20 := by have := hrow.2.1; omega
  have hcs : cs.size = 20 := hrow.1
  have hv2 : v ≤ n := hleft.2.2
  obtain ⟨v0, hv0⟩ : ∃ v0, cs[k - 1]? = some v0 := ⟨_, Array.getElem?_eq_getElem (by omega)⟩
  by_cases hv : v < 10
  ·have hq : ((v : Int) / 10 == 0) = true := by simp; omega
   have hend := tx_end hrow hk.1 hleft hv w
   have hsl := fun w1 => tx_slice w1 w.heap.size ((k : Int) - 1) (k - 1) (by omega) (by omega)
   clear hrow hleft hr
   go_wp2
   go_ret
   exact ⟨rfl, (Kp.refl _).alloc _⟩
  ·have hq : ((v : Int) / 10 == 0) = false := by simp; omega
   have HR := hid (tx_round hrow hk.1 hleft hv w)
   clear hrow hleft hr
   go_wp2
   go_roundw
   case rel => exact HR.out
   case measure => simp [intOf]; omega

theorem text_neg (n : Nat) (w : World) (h : n ≤ 9223372036854775808) (h1 : 1 ≤ n) :
  Calls Try.prog 58 #[.int .i64 (-(n : Int))] w fun e w' => e = .returned (.string ⟨(45 :: Lib.decDigits n).toArray⟩) ∧ Kp w w' := by
 go_enter Try.func58, Try.ntmps58
 go_wp2
 go_loopw [4, 5] (fun i u wr => ∃ (k v : Nat) (r : List UInt8) (cs : Array Value), i = .int .i64 k ∧ u = .int .u64 v ∧ TxRow cs k r ∧ TxLeft n v r ∧ wr = w.alloc (.cells cs 104))
  (fun _ u _ => (intOf u).toNat)
 case atStart => exact ⟨20, n, [], _, rfl, by rw [IntKind.wrap_u64, IntKind.wrap_u64]; congr 1; omega, ⟨rfl, rfl, fun j hj => by simp at hj⟩, ⟨by simp, Or.inr rfl, Nat.le_refl _⟩, rfl⟩
 case round =>
  obtain ⟨k, v, r, cs, rfl, rfl, hrow, hleft, rfl⟩ := hrel
  have hr := tx_room hleft (by omega)
  have hk : 2 ≤ k ∧ k ≤ 20 := by have := hrow.2.1; omega
  have hcs : cs.size = 20 := hrow.1
  have hv2 : v ≤ n := hleft.2.2
  obtain ⟨v0, hv0⟩ : ∃ v0, cs[k - 1]? = some v0 := ⟨_, Array.getElem?_eq_getElem (by omega)⟩
  by_cases hv : v < 10
  ·have hq : ((v : Int) / 10 == 0) = true := by simp; omega
   have hend := tx_end_neg hrow hk.1 hleft hv w
   have hsl := fun w1 => tx_slice w1 w.heap.size ((k : Int) - 1 - 1) (k - 1 - 1) (by omega) (by omega)
   obtain ⟨v1, hv1⟩ : ∃ v1, (cs.setIfInBounds (k - 1) (.int .u8 (48 + (v : Int) % 10)))[k - 1 - 1]? = some v1 := ⟨_, Array.getElem?_eq_getElem (by simp; omega)⟩
   clear hrow hleft hr
   go_wp2
   go_ret
   exact ⟨rfl, (Kp.refl _).alloc _⟩
  ·have hq : ((v : Int) / 10 == 0) = false := by simp; omega
   have HR := hid (tx_round hrow hk.1 hleft hv w)
   clear hrow hleft hr
   go_wp2
   go_roundw
   case rel => exact HR.out
   case measure => simp [intOf]; omega

theorem text_any (n : Int) (w : World) (h : -9223372036854775808 ≤ n ∧ n ≤ 9223372036854775807) :
  Calls Try.prog 58 #[.int .i64 n] w fun e w' => e = .returned (.string ⟨(Lib.itoa n).toArray⟩) ∧ Kp w w' := by
 by_cases hn : n < 0
 ·obtain ⟨m, rfl⟩ : ∃ m : Nat, n = -(m : Int) := ⟨n.natAbs, by omega⟩
  have := text_neg m w (by omega) (by omega)
  unfold Lib.itoa; rw [if_pos hn, show (-(m : Int)).natAbs = m by omega]; exact this
 ·obtain ⟨m, rfl⟩ : ∃ m : Nat, n = m := ⟨n.toNat, by omega⟩
  have := text_nonneg m w (by omega)
  unfold Lib.itoa; rw [if_neg hn, Int.toNat_natCast]; exact this
end Go.Proofs.Ytcjgagmcnmmfoaa

namespace Go.Proofs.Ytcjgagmcnmmfoaa
open Go.RowKit

def rdVal (l : List UInt8) : Nat := l.foldl (fun a b => (a * 10 + (b.toNat - 48)) % 18446744073709551616) 0
theorem rdVal_lt (l : List UInt8) : rdVal l < 18446744073709551616 := by
 unfold rdVal
 rcases List.eq_nil_or_concat l with rfl | ⟨r, b, rfl⟩
 ·simp
 ·simp [List.foldl_append]; omega
theorem rdVal_snoc (l : List UInt8) (b : UInt8) : rdVal (l ++ [b]) = (rdVal l * 10 + (b.toNat - 48)) % 18446744073709551616 := by simp [rdVal, List.foldl_append]
theorem rdVal_dec : ∀ (k u : Nat), u < 10 ^ (k + 1) → rdVal (Lib.decDigits u) = u % 18446744073709551616
 | 0, u, h => by
  have h' : u < 10 := by simpa using h
  rw [dec_small u h']
  simp [rdVal]; omega
 | k + 1, u, h => by
  by_cases hs : u < 10
  ·exact rdVal_dec 0 u (by simpa using hs)
  ·rw [dec_big u hs, rdVal_snoc, rdVal_dec k (u / 10) (by rw [Nat.pow_succ] at h; omega)]
   have : (UInt8.ofNat (48 + u % 10)).toNat = 48 + u % 10 := by rw [UInt8.toNat_ofNat']; omega
   rw [this]; omega
theorem dec_digit : ∀ (k u : Nat), u < 10 ^ (k + 1) → ∀ b ∈ Lib.decDigits u, 48 ≤ b.toNat ∧ b.toNat ≤ 57
 | 0, u, h => by
  have h' : u < 10 := by simpa using h
  rw [dec_small u h']; intro b hb
  obtain rfl : b = UInt8.ofNat (48 + u) := by simpa using hb
  rw [UInt8.toNat_ofNat']; omega
 | k + 1, u, h => by
  by_cases hs : u < 10
  ·exact dec_digit 0 u (by simpa using hs)
  ·rw [dec_big u hs]; intro b hb
   rw [List.mem_append] at hb
   rcases hb with hb | hb
   ·exact dec_digit k (u / 10) (by rw [Nat.pow_succ] at h; omega) b hb
   ·obtain rfl : b = UInt8.ofNat (48 + u % 10) := by simpa using hb
    rw [UInt8.toNat_ofNat']; omega
theorem rdtake_all (t : ByteArray) (k : Nat) (h : ¬ k < t.size) : t.data.toList.take k = t.data.toList := List.take_of_length_le (by rw [Array.length_toList]; exact Nat.le_of_not_lt h)
theorem rdtake_snoc (s : ByteArray) (k : Nat) (h : k < s.size) : s.data.toList.take (k + 1) = s.data.toList.take k ++ [s[k]] := by
 rw [List.take_succ_eq_append_getElem (by simpa using h)]; rfl
theorem rd_step (t : ByteArray) (k : Nat) (h : k < t.size) (c1 : ¬ (t[k].toNat : Int) < 48) : IntKind.u64.wrap (IntKind.u64.wrap ((rdVal (t.data.toList.take k) : Int) * 10) + ((t[k].toNat : Int) - 48)) = (rdVal (t.data.toList.take (k + 1)) : Int) := by
 rw [rdtake_snoc t k h, rdVal_snoc, IntKind.wrap_u64, IntKind.wrap_u64]; omega
theorem rd_round (t : ByteArray) (k : Nat) (h : k < t.size) (c1 : ¬ (t[k].toNat : Int) < 48) :
  ∃ k' : Nat, k' ≤ t.size ∧ Value.int .i64 ((k : Int) + 1) = .int .i64 k' ∧ Value.int .u64 (IntKind.u64.wrap (IntKind.u64.wrap ((rdVal (t.data.toList.take k) : Int) * 10) + ((t[k].toNat : Int) - 48))) = .int .u64 (rdVal (t.data.toList.take k')) :=
 ⟨k + 1, by omega, by simp, by rw [rd_step t k h c1]⟩
theorem w64_bd' (a : Int) : -9223372036854775808 ≤ wrap64 a ∧ wrap64 a ≤ 9223372036854775807 := by unfold wrap64; omega
def NoNum (s : ByteArray) : Prop := ∀ n : Int, -9223372036854775808 ≤ n ∧ n ≤ 9223372036854775807 → (Lib.itoa n == s.toList) = false

theorem read_long (s : ByteArray) (w : World) (h : 20 < s.size) (hm : s.size ≤ 9223372036854775807) :
  Calls Try.prog 44 #[.string s] w fun e w' => e = .returned (.tuple #[.int .i64 0, .int .i64 3]) ∧ Kp w w' := by
 go_enter Try.func44, Try.ntmps44
 go_wp2
 go_ret2
 exact ⟨rfl, Kp.refl _⟩

theorem read_neg_miss (s t : ByteArray) (w : World) (h0 : 0 < s.size) (h20 : s.size ≤ 20) (ht : s.extract 1 s.size = t) (hts : t.size + 1 = s.size) (hc : (((s[0]'h0).toNat : Int) == 45) = true) (hs : NoNum s) :
  Calls Try.prog 44 #[.string s] w fun e w' => e = .returned (.tuple #[.int .i64 0, .int .i64 3]) ∧ Kp w w' := by
 have HS := hid hs; clear hs
 go_enter Try.func44, Try.ntmps44
 go_wp2
 go_loop [4, 7] (fun u i => ∃ k : Nat, k ≤ t.size ∧ i = .int .i64 k ∧ u = .int .u64 (rdVal (t.data.toList.take k))) (fun _ i => t.size - (intOf i).toNat)
 case atStart => exact ⟨0, by omega, rfl, rfl⟩
 case round =>
  obtain ⟨k, hk, rfl, rfl⟩ := hrel
  have hv := rdVal_lt (t.data.toList.take k)
  by_cases hlt : k < t.size
  ·by_cases c1 : ((t[k].toNat : Int) < 48)
   ·go_wp2
    go_ret2
    exact ⟨rfl, Kp.refl _⟩
   ·by_cases c2 : (57 < (t[k].toNat : Int))
    ·go_wp2
     go_ret2
     exact ⟨rfl, Kp.refl _⟩
    ·have HR := hid (rd_round t k hlt c1)
     go_wp2
     go_round
     case rel => exact HR.out
     case measure => simp [intOf]; omega
  ·have hno := HS.out _ (w64_bd' (-wrap64 (rdVal (t.data.toList.take k))))
   have hno' : (Lib.itoa (wrap64 (-wrap64 (rdVal (t.data.toList.take k)))) != s.toList) = true := by rw [bne, hno]; rfl
   go_wp2_with (go_at_call 58; refine (text_any _ _ (w64_bd' _)).mono ?_; rintro e w1 ⟨rfl, hk1⟩)
   go_ret2
   exact ⟨rfl, hk1⟩

theorem read_neg_hit (s t : ByteArray) (n : Int) (w : World) (h0 : 0 < s.size) (h20 : s.size ≤ 20) (ht : s.extract 1 s.size = t) (hts : t.size + 1 = s.size) (hc : (((s[0]'h0).toNat : Int) == 45) = true) (hd : ∀ k (h : k < t.size), 48 ≤ t[k].toNat ∧ t[k].toNat ≤ 57)
  (hn : wrap64 (-wrap64 (rdVal t.data.toList)) = n) (hs : (Lib.itoa n == s.toList) = true) :
  Calls Try.prog 44 #[.string s] w fun e w' => e = .returned (.tuple #[.int .i64 n, .int .i64 0]) ∧ Kp w w' := by
 have HD := hid hd; have HN := hid hn; have HS := hid hs; clear hs hd hn
 go_enter Try.func44, Try.ntmps44
 go_wp2
 go_loop [4, 7] (fun u i => ∃ k : Nat, k ≤ t.size ∧ i = .int .i64 k ∧ u = .int .u64 (rdVal (t.data.toList.take k))) (fun _ i => t.size - (intOf i).toNat)
 case atStart => exact ⟨0, by omega, rfl, rfl⟩
 case round =>
  obtain ⟨k, hk, rfl, rfl⟩ := hrel
  have hv := rdVal_lt (t.data.toList.take k)
  by_cases hlt : k < t.size
  ·have c1 : ¬ ((t[k].toNat : Int) < 48) := by have := HD.out k hlt; omega
   have c2 : ¬ (57 < (t[k].toNat : Int)) := by have := HD.out k hlt; omega
   have HR := hid (rd_round t k hlt c1)
   go_wp2
   go_round
   case rel => exact HR.out
   case measure => simp [intOf]; omega
  ·have hkt := rdtake_all t k hlt
   have hno : (Lib.itoa (wrap64 (-wrap64 (rdVal (t.data.toList.take k)))) == s.toList) = true := by rw [hkt, HN.out]; exact HS.out
   have hno' : (Lib.itoa (wrap64 (-wrap64 (rdVal (t.data.toList.take k)))) != s.toList) = false := by rw [bne, hno]; rfl
   have HK := hid hkt; clear hkt
   go_wp2_with (go_at_call 58; refine (text_any _ _ (w64_bd' _)).mono ?_; rintro e w1 ⟨rfl, hk1⟩)
   go_ret2
   refine ⟨?_, hk1⟩
   have hfin : wrap64 (-wrap64 (rdVal (t.data.toList.take k))) = n := by rw [HK.out]; exact HN.out
   exact ret_2int hfin rfl

theorem read_pos_miss (s : ByteArray) (w : World) (h0 : 0 < s.size) (h20 : s.size ≤ 20) (hc : (((s[0]'h0).toNat : Int) == 45) = false) (hs : NoNum s) :
  Calls Try.prog 44 #[.string s] w fun e w' => e = .returned (.tuple #[.int .i64 0, .int .i64 3]) ∧ Kp w w' := by
 have HS := hid hs; clear hs
 go_enter Try.func44, Try.ntmps44
 go_wp2
 go_loop [4, 7] (fun u i => ∃ k : Nat, k ≤ s.size ∧ i = .int .i64 k ∧ u = .int .u64 (rdVal (s.data.toList.take k))) (fun _ i => s.size - (intOf i).toNat)
 case atStart => exact ⟨0, by omega, rfl, rfl⟩
 case round =>
  obtain ⟨k, hk, rfl, rfl⟩ := hrel
  have hv := rdVal_lt (s.data.toList.take k)
  by_cases hlt : k < s.size
  ·by_cases c1 : ((s[k].toNat : Int) < 48)
   ·go_wp2
    go_ret2
    exact ⟨rfl, Kp.refl _⟩
   ·by_cases c2 : (57 < (s[k].toNat : Int))
    ·go_wp2
     go_ret2
     exact ⟨rfl, Kp.refl _⟩
    ·have HR := hid (rd_round s k hlt c1)
     go_wp2
     go_round
     case rel => exact HR.out
     case measure => simp [intOf]; omega
  ·have hno := HS.out _ (w64_bd' (rdVal (s.data.toList.take k)))
   have hno' : (Lib.itoa (wrap64 (rdVal (s.data.toList.take k))) != s.toList) = true := by rw [bne, hno]; rfl
   go_wp2_with (go_at_call 58; refine (text_any _ _ (w64_bd' _)).mono ?_; rintro e w1 ⟨rfl, hk1⟩)
   go_ret2
   exact ⟨rfl, hk1⟩

theorem read_pos_hit (s : ByteArray) (n : Int) (w : World) (h0 : 0 < s.size) (h20 : s.size ≤ 20) (hc : (((s[0]'h0).toNat : Int) == 45) = false) (hd : ∀ k (h : k < s.size), 48 ≤ s[k].toNat ∧ s[k].toNat ≤ 57)
  (hn : wrap64 (rdVal s.data.toList) = n) (hs : (Lib.itoa n == s.toList) = true) :
  Calls Try.prog 44 #[.string s] w fun e w' => e = .returned (.tuple #[.int .i64 n, .int .i64 0]) ∧ Kp w w' := by
 have HD := hid hd; have HN := hid hn; have HS := hid hs; clear hs hd hn
 go_enter Try.func44, Try.ntmps44
 go_wp2
 go_loop [4, 7] (fun u i => ∃ k : Nat, k ≤ s.size ∧ i = .int .i64 k ∧ u = .int .u64 (rdVal (s.data.toList.take k))) (fun _ i => s.size - (intOf i).toNat)
 case atStart => exact ⟨0, by omega, rfl, rfl⟩
 case round =>
  obtain ⟨k, hk, rfl, rfl⟩ := hrel
  have hv := rdVal_lt (s.data.toList.take k)
  by_cases hlt : k < s.size
  ·have c1 : ¬ ((s[k].toNat : Int) < 48) := by have := HD.out k hlt; omega
   have c2 : ¬ (57 < (s[k].toNat : Int)) := by have := HD.out k hlt; omega
   have HR := hid (rd_round s k hlt c1)
   go_wp2
   go_round
   case rel => exact HR.out
   case measure => simp [intOf]; omega
  ·have hkt := rdtake_all s k hlt
   have hno : (Lib.itoa (wrap64 (rdVal (s.data.toList.take k))) == s.toList) = true := by rw [hkt, HN.out]; exact HS.out
   have hno' : (Lib.itoa (wrap64 (rdVal (s.data.toList.take k))) != s.toList) = false := by rw [bne, hno]; rfl
   have HK := hid hkt; clear hkt
   go_wp2_with (go_at_call 58; refine (text_any _ _ (w64_bd' _)).mono ?_; rintro e w1 ⟨rfl, hk1⟩)
   go_ret2
   refine ⟨?_, hk1⟩
   have hfin : wrap64 (rdVal (s.data.toList.take k)) = n := by rw [HK.out]; exact HN.out
   exact ret_2int hfin rfl


theorem read_empty (s : ByteArray) (w : World) (h : s.size = 0) :
  Calls Try.prog 44 #[.string s] w fun e w' => e = .returned (.tuple #[.int .i64 0, .int .i64 3]) ∧ Kp w w' := by
 obtain rfl : s = ⟨#[]⟩ := by cases s with | mk a => congr 1; exact Array.eq_empty_of_size_eq_zero (by simpa [ByteArray.size] using h)
 have hno : (Lib.itoa 0 == []) = false := by decide +kernel
 have hno' : (Lib.itoa 0 != []) = true := by decide +kernel
 go_enter Try.func44, Try.ntmps44
 go_wp2
 refine wp_loop_rounds 1 ?_
 rw [rounds_succ]
 go_wp2_with (go_at_call 58; refine (text_any _ _ (by omega)).mono ?_; rintro e w1 ⟨rfl, hk1⟩)
 go_ret2
 exact ⟨rfl, hk1⟩

theorem read_miss (s : ByteArray) (w : World) (hs : NoNum s) (hm : s.size ≤ maxLen) :
  Calls Try.prog 44 #[.string s] w fun e w' => e = .returned (.tuple #[.int .i64 0, .int .i64 3]) ∧ Kp w w' := by
 unfold maxLen at hm
 by_cases h20 : s.size ≤ 20
 ·by_cases h0 : 0 < s.size
  ·cases hc : (((s[0]'h0).toNat : Int) == 45)
   ·exact read_pos_miss s w h0 h20 hc hs
   ·exact read_neg_miss s _ w h0 h20 rfl (by rw [ByteArray.size_extract]; omega) hc hs
  ·exact read_empty s w (by omega)
 ·exact read_long s w (by omega) (by omega)
theorem mk_get (l : List UInt8) (k : Nat) (h : k < (⟨l.toArray⟩ : ByteArray).size) : (⟨l.toArray⟩ : ByteArray)[k] = l[k]'(by simpa [ByteArray.size] using h) := by
 show (l.toArray)[k]'_ = _
 simp
theorem read_hit (n : Int) (w : World) (h : -9223372036854775808 ≤ n ∧ n ≤ 9223372036854775807) :
  Calls Try.prog 44 #[.string ⟨(Lib.itoa n).toArray⟩] w fun e w' => e = .returned (.tuple #[.int .i64 n, .int .i64 0]) ∧ Kp w w' := by
 have heq : (Lib.itoa n == (⟨(Lib.itoa n).toArray⟩ : ByteArray).toList) = true := by rw [toList_mk]; simp
 by_cases hn : n < 0
 ·obtain ⟨m, rfl⟩ : ∃ m : Nat, n = -(m : Int) := ⟨n.natAbs, by omega⟩
  have hi : Lib.itoa (-(m : Int)) = 45 :: Lib.decDigits m := by unfold Lib.itoa; rw [if_pos hn, show (-(m : Int)).natAbs = m by omega]
  rw [hi] at heq ⊢
  have hl := dec_len 18 m (by omega)
  have ht : (⟨(45 :: Lib.decDigits m).toArray⟩ : ByteArray).extract 1 (⟨(45 :: Lib.decDigits m).toArray⟩ : ByteArray).size = ⟨(Lib.decDigits m).toArray⟩ := by
   rw [Lib.extract_eq]; simp [ByteArray.size]
  refine read_neg_hit _ _ _ w (by simp [ByteArray.size]) (by simp [ByteArray.size]; omega) ht (by simp [ByteArray.size]) (by rw [mk_get]; rfl) (fun k hk => ?_) ?_ (by rw [hi]; exact heq)
  ·rw [mk_get]; exact dec_digit 18 m (by omega) _ (List.getElem_mem _)
  ·show wrap64 (-wrap64 (rdVal ((Lib.decDigits m).toArray).toList : Nat)) = _
   rw [List.toList_toArray, rdVal_dec 18 m (by omega)]; unfold wrap64; omega
 ·obtain ⟨m, rfl⟩ : ∃ m : Nat, n = m := ⟨n.toNat, by omega⟩
  have hi : Lib.itoa (m : Int) = Lib.decDigits m := by unfold Lib.itoa; rw [if_neg hn, Int.toNat_natCast]
  rw [hi] at heq ⊢
  have hl := dec_len 18 m (by omega)
  have hp := dec_pos m
  refine read_pos_hit _ _ w (by simp [ByteArray.size]; omega) (by simp [ByteArray.size]; omega) ?_ (fun k hk => ?_) ?_ (by rw [hi]; exact heq)
  ·rw [mk_get]
   have := dec_digit 18 m (by omega) _ (List.getElem_mem (by omega : 0 < (Lib.decDigits m).length))
   simp; omega
  ·rw [mk_get]; exact dec_digit 18 m (by omega) _ (List.getElem_mem _)
  ·show wrap64 (rdVal ((Lib.decDigits m).toArray).toList : Nat) = _
   rw [List.toList_toArray, rdVal_dec 18 m (by omega)]; unfold wrap64; omega

end Go.Proofs.Ytcjgagmcnmmfoaa

namespace Go.Proofs.Ytcjgagmcnmmfoaa
open Go.RowKit

abbrev Bs := List UInt8
def restOf (S : ByteArray) (a : Nat) : Bs := S.data.toList.drop a
theorem rest_cons {S : ByteArray} {c : Nat} (h : c < S.size) : restOf S c = S[c] :: restOf S (c + 1) := udrop S c h
theorem rest_nil {S : ByteArray} {c : Nat} (h : S.size ≤ c) : restOf S c = [] := List.drop_eq_nil_of_le (by rw [Array.length_toList]; exact h)
theorem rest_len (S : ByteArray) (a : Nat) : (restOf S a).length = S.size - a := by
 unfold restOf; rw [List.length_drop, Array.length_toList]; rfl
theorem rest_drop (S : ByteArray) (a n : Nat) : (restOf S a).drop n = restOf S (a + n) := by
 unfold restOf; rw [List.drop_drop]

def letterB (b : UInt8) : Bool := (decide (97 ≤ b.toNat) && decide (b.toNat ≤ 122)) || (decide (65 ≤ b.toNat) && decide (b.toNat ≤ 90)) || b == 95
def digitB (b : UInt8) : Bool := decide (48 ≤ b.toNat) && decide (b.toNat ≤ 57)
def wordB (b : UInt8) : Bool := letterB b || digitB b
def span_ (p : UInt8 → Bool) : Bs → Nat
 | [] => 0
 | b :: r => if p b then span_ p r + 1 else 0
def noNl (b : UInt8) : Bool := b != 10
def kFunc : Bs := [102, 117, 110, 99]
def kVar : Bs := [118, 97, 114]
def kIf : Bs := [105, 102]
def kElse : Bs := [101, 108, 115, 101]
def kFor : Bs := [102, 111, 114]
def kBreak : Bs := [98, 114, 101, 97, 107]
def kContinue : Bs := [99, 111, 110, 116, 105, 110, 117, 101]
def kReturn : Bs := [114, 101, 116, 117, 114, 110]
def kDefer : Bs := [100, 101, 102, 101, 114]
def kTrue : Bs := [116, 114, 117, 101]
def kFalse : Bs := [102, 97, 108, 115, 101]
def kNil : Bs := [110, 105, 108]
def kInt : Bs := [105, 110, 116]
def kBool : Bs := [98, 111, 111, 108]
def kString : Bs := [115, 116, 114, 105, 110, 103]
def kAny : Bs := [97, 110, 121]
def wordsL : List Bs := [kFunc, kVar, kIf, kElse, kFor, kBreak, kContinue, kReturn, kDefer, kTrue, kFalse, kNil, kInt, kBool, kString, kAny]
def isWord (l : Bs) : Bool := wordsL.contains l
def NumP (l : Bs) : Prop := ∃ n : Int, -9223372036854775808 ≤ n ∧ n ≤ 9223372036854775807 ∧ Lib.itoa n = l
def txtLen : Bs → Option Nat
 | [] => none
 | [c] => if c = 34 then some 0 else none
 | c :: d :: r => if c = 34 then some 0 else if c = 10 then none else if c = 92 then (txtLen r).map (· + 2) else (txtLen (d :: r)).map (· + 1)
def signs2 : List Bs := [[60, 60], [62, 62], [38, 38], [124, 124], [61, 61], [33, 61], [60, 61], [62, 61], [58, 61]]
def signs1 : Bs := [43, 45, 42, 47, 37, 38, 124, 94, 60, 62, 61, 40, 41, 123, 125, 91, 93, 44, 58, 33]
def signLen : Bs → Nat
 | [] => 0
 | [a] => if signs1.contains a then 1 else 0
 | a :: b :: _ => if signs2.contains [a, b] then 2 else if signs1.contains a then 1 else 0
def okText (l : Bs) : Bool := match unq l with | none => false | some o => decide (o.length ≤ 200)

inductive Lex
 | nl
 | skip (n : Nat)
 | tok (k : Int) (n : Nat)
 | bad (e : Int)
open Classical in
noncomputable def lex : Bs → Lex
 | [] => .bad 0
 | b :: r =>
  if b = 10 then .nl
  else if b = 32 ∨ b = 9 ∨ b = 13 then .skip 1
  else if b = 47 ∧ r.head? = some 47 then .skip (span_ noNl (b :: r))
  else if letterB b then (if 16 < span_ wordB (b :: r) then .bad 7 else .tok (if isWord ((b :: r).take (span_ wordB (b :: r))) then 5 else 1) (span_ wordB (b :: r)))
  else if digitB b then (if NumP ((b :: r).take (span_ wordB (b :: r))) then .tok 2 (span_ wordB (b :: r)) else .bad 3)
  else if b = 34 then (match txtLen r with | none => .bad 4 | some k => if okText (r.take k) then .tok 3 (k + 2) else .bad 4)
  else if b = 59 then .tok 6 1
  else if signLen (b :: r) = 0 then .bad 2 else .tok 4 (signLen (b :: r))

structure CutM where
 pos : Nat
 line : Int
 col : Int
 out : List TokenM
abbrev Err := Int × Int × Int
def putM (c : CutM) (k : Int) (t : ByteArray) (n : Nat) : Except Err CutM :=
 if c.out.length = 2000 then .error (15, c.line, c.col) else .ok { c with pos := c.pos + n, col := c.col + n, out := c.out ++ [⟨k, t, c.line, c.col⟩] }
def semiB : ByteArray := ⟨#[59]⟩
def endSigns : List Bs := [[41], [93], [125]]
def endWords : List Bs := [kBreak, kContinue, kReturn, kTrue, kFalse, kNil, kInt, kBool, kString, kAny]
def endsT (k : Int) (t : ByteArray) : Bool :=
 if k = 1 ∨ k = 2 ∨ k = 3 then true else if k = 4 then endSigns.contains t.data.toList else if k = 5 then endWords.contains t.data.toList else false
def lineEndM (c : CutM) : Except Err CutM := match c.out.getLast? with
 | some t => if endsT t.kind t.text then putM c 6 semiB 0 else .ok c
 | none => .ok c
noncomputable def stepM (S : ByteArray) (c : CutM) : Except Err CutM := match lex (restOf S c.pos) with
 | .nl => match lineEndM c with | .ok c => .ok { c with pos := c.pos + 1, line := c.line + 1, col := 1 } | .error e => .error e
 | .skip n => .ok { c with pos := c.pos + n, col := c.col + n }
 | .tok k n => putM c k (S.extract c.pos (c.pos + n)) n
 | .bad e => .error (e, c.line, c.col)
inductive Runs (S : ByteArray) : CutM → Except Err (List TokenM) → Prop
 | fin {c : CutM} : S.size ≤ c.pos → Runs S c (match lineEndM c with | .ok c => .ok c.out | .error e => .error e)
 | step {c c' : CutM} {r : Except Err (List TokenM)} : c.pos < S.size → stepM S c = .ok c' → Runs S c' r → Runs S c r
 | bad {c : CutM} {e : Err} : c.pos < S.size → stepM S c = .error e → Runs S c (.error e)
theorem Runs.det {S : ByteArray} {c : CutM} {r r' : Except Err (List TokenM)} (h : Runs S c r) (h' : Runs S c r') : r = r' := by
 induction h with
 | fin h => cases h' with
  | fin _ => rfl
  | step h2 => omega
  | bad h2 => omega
 | step h1 h2 h3 ih => cases h' with
  | fin h => omega
  | step _ h5 h6 =>
   rw [h2] at h5; injection h5 with h5; subst h5
   exact ih h6
  | bad _ h5 => rw [h2] at h5; cases h5
 | bad h1 h2 => cases h' with
  | fin h => omega
  | step _ h5 _ => rw [h2] at h5; cases h5
  | bad _ h5 => rw [h2] at h5; injection h5 with h5; rw [h5]
def cut0 : CutM := ⟨0, 1, 1, []⟩
def ToksM (S : ByteArray) (r : Except Err (List TokenM)) : Prop := if 8000 < S.size then r = .error (1, 0, 0) else Runs S cut0 r

theorem span_le (p : UInt8 → Bool) : ∀ l : Bs, span_ p l ≤ l.length
 | [] => Nat.le_refl _
 | b :: r => by
  unfold span_
  split
  ·have := span_le p r; simp; omega
  ·simp
theorem txtLen_le : ∀ (n : Nat) (l : Bs) (k : Nat), l.length ≤ n → txtLen l = some k → k < l.length
 | _, [], k, _, h => by simp [txtLen] at h
 | _, [c], k, _, h => by
  unfold txtLen at h
  split at h
  ·injection h with h; subst h; simp
  ·cases h
 | 0, c :: d :: r, k, hn, h => by simp at hn
 | n + 1, c :: d :: r, k, hn, h => by
  unfold txtLen at h
  split at h
  ·injection h with h; subst h; simp
  ·split at h
   ·cases h
   ·split at h
    ·cases hr : txtLen r with
     | none => rw [hr] at h; cases h
     | some j =>
      rw [hr] at h; injection h with h; subst h
      have := txtLen_le n r j (by simp at hn; omega) hr
      simp; omega
    ·cases hr : txtLen (d :: r) with
     | none => rw [hr] at h; cases h
     | some j =>
      rw [hr] at h; injection h with h; subst h
      have := txtLen_le n (d :: r) j (by simp at hn ⊢; omega) hr
      simp at this ⊢; omega
theorem signLen_le : ∀ l : Bs, signLen l ≤ l.length ∧ signLen l ≤ 2
 | [] => ⟨Nat.le_refl _, by decide⟩
 | [a] => by simp only [signLen]; split <;> simp
 | a :: b :: r => by
  simp only [signLen]
  split
  ·simp
  ·split <;> simp
theorem lex_len {l : Bs} (hl : l ≠ []) : (∀ n, lex l = .skip n → 1 ≤ n ∧ n ≤ l.length) ∧ (∀ k n, lex l = .tok k n → 1 ≤ n ∧ n ≤ l.length ∧ 1 ≤ k ∧ k ≤ 6) ∧ (∀ e, lex l = .bad e → 2 ≤ e ∧ e ≤ 7) := by
 cases l with
 | nil => exact absurd rfl hl
 | cons b r =>
  have h1 := span_le wordB (b :: r)
  have h2 := span_le noNl (b :: r)
  have h3 := signLen_le (b :: r)
  unfold lex
  dsimp only
  by_cases c1 : b = 10
  ·rw [if_pos c1]; exact ⟨fun n h => (by cases h), fun k n h => (by cases h), fun e h => by cases h⟩
  rw [if_neg c1]
  by_cases c2 : b = 32 ∨ b = 9 ∨ b = 13
  ·rw [if_pos c2]
   exact ⟨fun n h => by injection h with h; subst h; simp, fun k n h => (by cases h), fun e h => by cases h⟩
  rw [if_neg c2]
  by_cases c3 : b = 47 ∧ r.head? = some 47
  ·rw [if_pos c3]
   refine ⟨fun n h => ?_, fun k n h => (by cases h), fun e h => by cases h⟩
   injection h with h; subst h
   refine ⟨?_, h2⟩
   unfold span_
   rw [if_pos (by rw [c3.1]; decide)]; omega
  rw [if_neg c3]
  by_cases c4 : letterB b = true
  ·rw [if_pos c4]
   have h4 : 1 ≤ span_ wordB (b :: r) := by unfold span_; rw [if_pos (by unfold wordB; rw [c4]; rfl)]; omega
   split
   ·exact ⟨fun n h => (by cases h), fun k n h => (by cases h), fun e h => by injection h with h; omega⟩
   ·refine ⟨fun n h => (by cases h), fun k n h => ?_, fun e h => by cases h⟩
    injection h with ha hb
    subst hb
    refine ⟨h4, h1, ?_⟩
    split at ha <;> omega
  rw [if_neg c4]
  by_cases c5 : digitB b = true
  ·rw [if_pos c5]
   have h4 : 1 ≤ span_ wordB (b :: r) := by unfold span_; rw [if_pos (by unfold wordB; rw [c5, Bool.or_true])]; omega
   split
   ·refine ⟨fun n h => (by cases h), fun k n h => ?_, fun e h => by cases h⟩
    injection h with ha hb
    subst hb
    exact ⟨h4, h1, by omega, by omega⟩
   ·exact ⟨fun n h => (by cases h), fun k n h => (by cases h), fun e h => by injection h with h; omega⟩
  rw [if_neg c5]
  by_cases c6 : b = 34
  ·rw [if_pos c6]
   cases ht : txtLen r with
   | none => exact ⟨fun n h => (by cases h), fun k n h => (by cases h), fun e h => by injection h with h; omega⟩
   | some k =>
    have h5 := txtLen_le _ r k (Nat.le_refl _) ht
    dsimp only
    split
    ·refine ⟨fun n h => (by cases h), fun k n h => ?_, fun e h => by cases h⟩
     injection h with ha hb
     subst hb
     exact ⟨by omega, by simp; omega, by omega, by omega⟩
    ·exact ⟨fun n h => (by cases h), fun k n h => (by cases h), fun e h => by injection h with h; omega⟩
  rw [if_neg c6]
  by_cases c7 : b = 59
  ·rw [if_pos c7]
   refine ⟨fun n h => (by cases h), fun k n h => ?_, fun e h => by cases h⟩
   injection h with ha hb
   subst hb
   exact ⟨by omega, by simp, by omega, by omega⟩
  rw [if_neg c7]
  split
  ·exact ⟨fun n h => (by cases h), fun k n h => (by cases h), fun e h => by injection h with h; omega⟩
  ·refine ⟨fun n h => (by cases h), fun k n h => ?_, fun e h => by cases h⟩
   injection h with ha hb
   subst hb
   exact ⟨by omega, h3.1, by omega, by omega⟩
structure CBd (S : ByteArray) (c : CutM) : Prop where
 size : S.size ≤ 8000
 pos : c.pos ≤ S.size
 l1 : 1 ≤ c.line
 l2 : c.line ≤ c.pos + 1
 c1 : 1 ≤ c.col
 c2 : c.col ≤ c.pos + 1
 out : c.out.length ≤ 2000
theorem putM_ok {c c' : CutM} {k : Int} {t : ByteArray} {n : Nat} (h : putM c k t n = .ok c') : c.out.length ≠ 2000 ∧ c' = { c with pos := c.pos + n, col := c.col + n, out := c.out ++ [⟨k, t, c.line, c.col⟩] } := by
 unfold putM at h
 split at h
 ·cases h
 ·rename_i h1; injection h with h; exact ⟨h1, h.symm⟩
theorem CBd.put {S : ByteArray} {c c' : CutM} {k : Int} {t : ByteArray} {n : Nat} (h : CBd S c) (hn : c.pos + n ≤ S.size) (hp : putM c k t n = .ok c') : CBd S c' := by
 obtain ⟨h1, rfl⟩ := putM_ok hp
 refine ⟨h.size, hn, h.l1, ?_, ?_, ?_, ?_⟩
 ·show c.line ≤ ((c.pos + n : Nat) : Int) + 1; have := h.l2; omega
 ·show 1 ≤ c.col + (n : Int); have := h.c1; omega
 ·show c.col + (n : Int) ≤ ((c.pos + n : Nat) : Int) + 1; have := h.c2; omega
 ·show (c.out ++ [_]).length ≤ 2000; rw [List.length_append, List.length_singleton]; have := h.out; omega
theorem lineEndM_ok {c c' : CutM} (h : lineEndM c = .ok c') : c' = c ∨ putM c 6 semiB 0 = .ok c' := by
 unfold lineEndM at h
 split at h
 ·split at h
  ·exact .inr h
  ·injection h with h; exact .inl h.symm
 ·injection h with h; exact .inl h.symm
theorem CBd.lineEnd {S : ByteArray} {c c' : CutM} (h : CBd S c) (hp : lineEndM c = .ok c') : CBd S c' ∧ c'.pos = c.pos := by
 rcases lineEndM_ok hp with rfl | hp
 ·exact ⟨h, rfl⟩
 ·exact ⟨h.put (by have := h.pos; omega) hp, by obtain ⟨_, rfl⟩ := putM_ok hp; rfl⟩
theorem CBd.step {S : ByteArray} {c c' : CutM} (h : CBd S c) (hl : c.pos < S.size) (hp : stepM S c = .ok c') : CBd S c' ∧ c.pos < c'.pos := by
 have hne : restOf S c.pos ≠ [] := by rw [rest_cons hl]; exact List.cons_ne_nil _ _
 obtain ⟨g1, g2, g3⟩ := lex_len hne
 rw [rest_len] at g1 g2
 unfold stepM at hp
 split at hp
 ·cases hq : lineEndM c with
  | error e => rw [hq] at hp; cases hp
  | ok c1 =>
   rw [hq] at hp
   injection hp with hp
   subst hp
   obtain ⟨h1, h2⟩ := h.lineEnd hq
   refine ⟨⟨h1.size, by show c1.pos + 1 ≤ _; omega, ?_, ?_, ?_, ?_, h1.out⟩, by show _ < c1.pos + 1; omega⟩
   ·show 1 ≤ c1.line + 1; have := h1.l1; omega
   ·show c1.line + 1 ≤ ((c1.pos + 1 : Nat) : Int) + 1; have := h1.l2; omega
   ·show (1 : Int) ≤ 1; omega
   ·show (1 : Int) ≤ ((c1.pos + 1 : Nat) : Int) + 1; omega
 ·rename_i n hn
  have := g1 n hn
  injection hp with hp
  subst hp
  refine ⟨⟨h.size, by show c.pos + n ≤ _; omega, h.l1, ?_, ?_, ?_, h.out⟩, by show _ < c.pos + n; omega⟩
  ·show c.line ≤ ((c.pos + n : Nat) : Int) + 1; have := h.l2; omega
  ·show 1 ≤ c.col + (n : Int); have := h.c1; omega
  ·show c.col + (n : Int) ≤ ((c.pos + n : Nat) : Int) + 1; have := h.c2; omega
 ·rename_i k n hn
  have := g2 k n hn
  exact ⟨h.put (by omega) hp, by obtain ⟨_, rfl⟩ := putM_ok hp; show _ < c.pos + n; omega⟩
 ·cases hp
theorem cut0_bd {S : ByteArray} (h : S.size ≤ 8000) : CBd S cut0 := ⟨h, Nat.zero_le _, by show (1 : Int) ≤ 1; omega, by show (1 : Int) ≤ ((0 : Nat) : Int) + 1; omega, by show (1 : Int) ≤ 1; omega, by show (1 : Int) ≤ ((0 : Nat) : Int) + 1; omega, Nat.zero_le _⟩
theorem Runs.ex {S : ByteArray} : ∀ (n : Nat) (c : CutM), CBd S c → S.size - c.pos ≤ n → ∃ r, Runs S c r
 | n, c, h, hn => by
  rcases Nat.lt_or_ge c.pos S.size with hl | hl
  ·cases hs : stepM S c with
   | error e => exact ⟨_, .bad hl hs⟩
   | ok c' =>
    obtain ⟨h1, h2⟩ := h.step hl hs
    cases n with
    | zero => omega
    | succ n =>
     obtain ⟨r, hr⟩ := Runs.ex n c' h1 (by omega)
     exact ⟨r, .step hl hs hr⟩
  ·exact ⟨_, .fin hl⟩
end Go.Proofs.Ytcjgagmcnmmfoaa

namespace Go.Proofs.Ytcjgagmcnmmfoaa
open Go.RowKit

theorem escs_unq : ∀ (n : Nat) (l o : List UInt8), l.length ≤ n → unq l = some o → okAll o ∧ escs o = l
 | 0, l, o, hn, h => by
  obtain rfl : l = [] := List.eq_nil_of_length_eq_zero (by omega)
  cases h; exact ⟨fun c hc => by simp at hc, rfl⟩
 | n + 1, [], o, hn, h => by cases h; exact ⟨fun c hc => by simp at hc, rfl⟩
 | n + 1, c :: r, o, hn, h => by
  have hcons : ∀ (x : UInt8) (e o2 l2 : List UInt8), escB x = some e → okAll o2 ∧ escs o2 = l2 → okAll (x :: o2) ∧ escs (x :: o2) = e ++ l2 := by
   intro x e o2 l2 he ⟨h1, h2⟩
   refine ⟨fun y hy => ?_, by rw [← h2]; simp [escs, he]⟩
   rcases List.mem_cons.1 hy with rfl | hy
   ·rw [he]; simp
   ·exact h1 y hy
  rcases u_tests c with ⟨hb, t1, t2, t3, ⟨rfl, t4⟩ | ⟨hne, t4⟩⟩ | ⟨hb, hx⟩
  ·match r, hn, h with
   | [], hn, h => exact absurd h (by simp [unq])
   | d :: r, hn, h =>
    rcases unesc_cases d with ⟨rfl, hx⟩ | ⟨rfl, hx⟩ | ⟨rfl, hx⟩ | ⟨rfl, hx⟩ | ⟨hd, hx⟩
    ·rw [unq_esc _ _ _ hx] at h
     obtain ⟨o2, h2, rfl⟩ := Option.map_eq_some_iff.1 h
     exact hcons 10 [92, 110] o2 r rfl (escs_unq n r o2 (by simp at hn; omega) h2)
    ·rw [unq_esc _ _ _ hx] at h
     obtain ⟨o2, h2, rfl⟩ := Option.map_eq_some_iff.1 h
     exact hcons 9 [92, 116] o2 r rfl (escs_unq n r o2 (by simp at hn; omega) h2)
    ·rw [unq_esc _ _ _ hx] at h
     obtain ⟨o2, h2, rfl⟩ := Option.map_eq_some_iff.1 h
     exact hcons 34 [92, 34] o2 r rfl (escs_unq n r o2 (by simp at hn; omega) h2)
    ·rw [unq_esc _ _ _ hx] at h
     obtain ⟨o2, h2, rfl⟩ := Option.map_eq_some_iff.1 h
     exact hcons 92 [92, 92] o2 r rfl (escs_unq n r o2 (by simp at hn; omega) h2)
    ·rw [unq_noesc d _ hx] at h; cases h
  ·rw [unq_plain c _ hb hne] at h
   obtain ⟨o2, h2, rfl⟩ := Option.map_eq_some_iff.1 h
   have hr := escs_unq n r o2 (by simp at hn; omega) h2
   rcases esc_cases c with ⟨rfl, he⟩ | ⟨rfl, he⟩ | ⟨rfl, he⟩ | ⟨rfl, he⟩ | ⟨ht, r1, r2, he⟩ | ⟨ht, r3, he⟩
   ·exact absurd t1 (by decide)
   ·exact absurd rfl hne
   ·exact absurd t2 (by decide)
   ·exact absurd t2 (by decide)
   ·exact hcons _ _ _ _ he hr
   ·omega
  ·rw [unq_bad c _ hb] at h; cases h

theorem unquote_not (s : ByteArray) (w : World) (hreach : s.size ≤ 140737488351232) (h : ∀ h2 : 2 ≤ s.size, ¬ (s[0]'(by omega) = 34 ∧ s[s.size - 1]'(by omega) = 34)) :
  Calls Try.prog 45 #[.string s] w fun e w' => e = .returned (.tuple #[.string ⟨#[]⟩, .int .i64 4]) ∧ Kp w w' := by
 have hn : ∀ c : UInt8, c ≠ 34 → ((c.toNat : Int) == 34) = false ∧ ((c.toNat : Int) != 34) = true := by
  intro c h
  have : ((c.toNat : Int) == 34) = false := by
   rw [beq_eq_false_iff_ne]
   intro h2; apply h; apply UInt8.toNat_inj.1; show c.toNat = 34; omega
  exact ⟨this, by rw [bne, this]; rfl⟩
 by_cases h2 : 2 ≤ s.size
 ·have h := h h2
  by_cases h0 : s[0]'(by omega) = 34
  ·obtain ⟨t0, t1⟩ := hn _ (fun e => h ⟨h0, e⟩)
   clear h hn
   go_enter Try.func45, Try.ntmps45
   go_wp2
   go_ret2
   exact ⟨rfl, Kp.refl _⟩
  ·obtain ⟨t0, t1⟩ := hn _ h0
   clear h hn
   go_enter Try.func45, Try.ntmps45
   go_wp2
   go_ret2
   exact ⟨rfl, Kp.refl _⟩
 ·clear h hn
  go_enter Try.func45, Try.ntmps45
  go_wp2
  go_ret2
  exact ⟨rfl, Kp.refl _⟩

theorem mkb_get (l : List UInt8) (k : Nat) (h : k < (⟨l.toArray⟩ : ByteArray).size) : (⟨l.toArray⟩ : ByteArray)[k] = l[k]'(by simpa [ByteArray.size] using h) := by
 show (l.toArray)[k]'_ = _
 simp
theorem unquote_mk (l : List UInt8) (w : World) (hl : l.length + 2 ≤ 140737488351232) :
  Calls Try.prog 45 #[.string ⟨(34 :: (l ++ [34])).toArray⟩] w (UPost ⟨l.toArray⟩ w) := by
 have hsz : (⟨(34 :: (l ++ [34])).toArray⟩ : ByteArray).size = l.length + 2 := by simp [ByteArray.size]
 refine unquote_in _ _ w (by rw [hsz]; omega) (by rw [hsz]; exact hl) ?_ ?_ ?_ (by rw [hsz]; simp [ByteArray.size])
 ·rw [mkb_get]; rfl
 ·rw [mkb_get]; simp [hsz]
 ·rw [Lib.extract_eq, hsz]; simp
theorem quoted_form (s : ByteArray) (h2 : 2 ≤ s.size) (h0 : s[0]'(by omega) = 34) (h1 : s[s.size - 1]'(by omega) = 34) : ∃ l : List UInt8, s = ⟨(34 :: (l ++ [34])).toArray⟩ := by
 obtain ⟨⟨l0⟩⟩ := s
 have hlen : (⟨⟨l0⟩⟩ : ByteArray).size = l0.length := rfl
 match l0, h2, h0, h1 with
 | [], h2, _, _ => simp [ByteArray.size] at h2
 | c :: r, h2, h0, h1 =>
  rcases List.eq_nil_or_concat r with rfl | ⟨l, d, rfl⟩
  ·simp [ByteArray.size] at h2
  ·refine ⟨l, ?_⟩
   have e0 : c = 34 := h0
   have e1 : d = 34 := by
    rw [mkb_get] at h1
    simpa [ByteArray.size] using h1
   subst e0; subst e1; simp
end Go.Proofs.Ytcjgagmcnmmfoaa

namespace Go.Proofs.Ytcjgagmcnmmfoaa
open Go.RowKit

theorem dec_inj {u v : Nat} (hu : u < 10 ^ 19) (hv : v < 10 ^ 19) (h : Lib.decDigits u = Lib.decDigits v) : u = v := by
 have h1 := rdVal_dec 18 u hu
 have h2 := rdVal_dec 18 v hv
 rw [h, h2] at h1
 omega
theorem dec_head (u : Nat) (hu : u < 10 ^ 20) : ∃ c r, Lib.decDigits u = c :: r ∧ 48 ≤ c.toNat ∧ c.toNat ≤ 57 := by
 cases h : Lib.decDigits u with
 | nil => have := dec_pos u; rw [h] at this; simp at this
 | cons c r => exact ⟨c, r, rfl, dec_digit 19 u hu c (by rw [h]; exact List.mem_cons_self ..)⟩
theorem itoa_inj {u v : Int} (hu : okI u) (hv : okI v) (h : Lib.itoa u = Lib.itoa v) : u = v := by
 unfold okI at hu hv
 unfold Lib.itoa at h
 split at h <;> split at h
 ·injection h with _ h
  have := dec_inj (by omega) (by omega) h
  omega
 ·obtain ⟨c, r, e, h1, _⟩ := dec_head v.toNat (by omega)
  rw [e] at h
  injection h with h _
  subst h
  exact absurd h1 (by decide)
 ·obtain ⟨c, r, e, h1, _⟩ := dec_head u.toNat (by omega)
  rw [e] at h
  injection h with h _
  subst h
  exact absurd h1 (by decide)
 ·have := dec_inj (by omega) (by omega) h
  omega
noncomputable def readO (l : List UInt8) : Option Int := by
 classical exact if h : ∃ v, okI v ∧ Lib.itoa v = l then some (Classical.choose h) else none
theorem readO_itoa (v : Int) (h : okI v) : readO (Lib.itoa v) = some v := by
 unfold readO
 have hx : ∃ u, okI u ∧ Lib.itoa u = Lib.itoa v := ⟨v, h, rfl⟩
 rw [dif_pos hx]
 have := Classical.choose_spec hx
 exact congrArg some (itoa_inj this.1 h this.2)
theorem readO_some {l : List UInt8} {v : Int} (h : readO l = some v) : okI v ∧ Lib.itoa v = l := by
 unfold readO at h
 split at h
 ·rename_i hx
  injection h with h
  subst h
  exact Classical.choose_spec hx
 ·cases h
theorem readO_none {l : List UInt8} (h : readO l = none) : ∀ v, okI v → Lib.itoa v ≠ l := by
 intro v hv he
 subst he
 rw [readO_itoa v hv] at h; cases h
theorem read_o (s : ByteArray) (w : World) (hm : s.size ≤ 140737488351232) : Calls Try.prog 44 #[.string s] w fun e w' => e = .returned (.tuple #[.int .i64 ((readO s.data.toList).getD 0), .int .i64 (if (readO s.data.toList).isSome then 0 else 3)]) ∧ Kp w w' := by
 cases h : readO s.data.toList with
 | some v =>
  obtain ⟨hv, e⟩ := readO_some h
  have es : s = ⟨(Lib.itoa v).toArray⟩ := by rw [e]
  rw [es]
  exact read_hit v w hv
 | none =>
  refine read_miss s w (fun n h1 => ?_) (by unfold maxLen; omega)
  rw [beq_eq_false_iff_ne, ByteArray.toList_eq]
  exact readO_none h n h1
noncomputable def unqO (s : ByteArray) : Option (List UInt8) := by
 classical exact if h : ∃ o l : List UInt8, s = ⟨(34 :: (l ++ [34])).toArray⟩ ∧ unq l = some o ∧ o.length ≤ 200 then some (Classical.choose h) else none
theorem quoted_inj {l m : List UInt8} (h : (⟨(34 :: (l ++ [34])).toArray⟩ : ByteArray) = ⟨(34 :: (m ++ [34])).toArray⟩) : l = m := by
 have h1 := congrArg (fun b => b.data.toList) h
 simpa using h1
theorem unqO_mk {l o : List UInt8} (h : unq l = some o) (ho : o.length ≤ 200) : unqO ⟨(34 :: (l ++ [34])).toArray⟩ = some o := by
 unfold unqO
 have hx : ∃ o' l' : List UInt8, (⟨(34 :: (l ++ [34])).toArray⟩ : ByteArray) = ⟨(34 :: (l' ++ [34])).toArray⟩ ∧ unq l' = some o' ∧ o'.length ≤ 200 := ⟨o, l, rfl, h, ho⟩
 rw [dif_pos hx]
 obtain ⟨l', h1, h2, _⟩ := Classical.choose_spec hx
 obtain rfl := quoted_inj h1
 rw [h] at h2
 exact h2.symm
theorem unqO_none {l : List UInt8} (h : ∀ o, unq l = some o → 200 < o.length) : unqO ⟨(34 :: (l ++ [34])).toArray⟩ = none := by
 unfold unqO
 rw [dif_neg]
 rintro ⟨o, l', h1, h2, h3⟩
 obtain rfl := quoted_inj h1
 have := h o h2
 omega
theorem unqO_len {s : ByteArray} {o : List UInt8} (h : unqO s = some o) : o.length ≤ 200 := by
 unfold unqO at h
 split at h
 ·rename_i hx
  injection h with h
  subst h
  obtain ⟨l', _, _, h3⟩ := Classical.choose_spec hx
  exact h3
 ·cases h
theorem unquote_o (s : ByteArray) (w : World) (hs : s.size ≤ 140737488351232) : Calls Try.prog 45 #[.string s] w fun e w' => e = .returned (.tuple #[.string ⟨((unqO s).getD []).toArray⟩, .int .i64 (if (unqO s).isSome then 0 else 4)]) ∧ Kp w w' := by
 by_cases hq : ∃ l : List UInt8, s = ⟨(34 :: (l ++ [34])).toArray⟩
 ·obtain ⟨l, rfl⟩ := hq
  refine (unquote_mk l w (by simp [ByteArray.size] at hs; omega)).mono ?_
  rintro e w' ⟨⟨o, h1, h2, rfl⟩ | ⟨h1, rfl⟩, hk⟩
  ·have h1 : unq l = some o := by simpa using h1
   rw [unqO_mk h1 h2]
   exact ⟨rfl, hk⟩
  ·have h1 : ∀ o, unq l = some o → 200 < o.length := by simpa using h1
   rw [unqO_none h1]
   exact ⟨rfl, hk⟩
 ·refine (unquote_not s w hs (fun h2 hx => hq (quoted_form s h2 hx.1 hx.2))).mono ?_
  rintro e w' ⟨rfl, hk⟩
  have : unqO s = none := by
   unfold unqO
   rw [dif_neg]
   rintro ⟨o, l, h1, _⟩
   exact hq ⟨l, h1⟩
  rw [this]
  exact ⟨rfl, hk⟩
end Go.Proofs.Ytcjgagmcnmmfoaa

namespace Go.Proofs.Ytcjgagmcnmmfoaa.Ty

abbrev Bs := List UInt8
def bInt : Bs := [105, 110, 116]
def bBool : Bs := [98, 111, 111, 108]
def bString : Bs := [115, 116, 114, 105, 110, 103]
def bAny : Bs := [97, 110, 121]
def bInts : Bs := [91, 93, 105, 110, 116]
def bPtr : Bs := [42, 105, 110, 116]
def bFunc : Bs := [102, 117, 110, 99, 40]
def tyWords : List Bs := [bInt, bBool, bString, bAny, bInts, bPtr]
def pre (k l : Bs) : Option Bs := if l.take k.length = k then some (l.drop k.length) else none
theorem pre_iff {k l r : Bs} : pre k l = some r ↔ l = k ++ r := by
 unfold pre
 constructor
 ·intro h
  split at h
  ·rename_i e
   have := Option.some.inj h
   rw [← this]
   conv => lhs; rw [← List.take_append_drop k.length l, e]
  ·cases h
 ·rintro rfl
  rw [if_pos (by simp)]; simp
def wordF : List Bs → Bs → Option Bs
 | [], _ => none
 | k :: ks, l => (pre k l).or (wordF ks l)
def wordM (l : Bs) : Option Bs := wordF tyWords l
def argsM (one : Bs → Option Bs) : Nat → Bool → Bs → Option (List Bs × Bs)
 | n, first, l =>
  match pre [41] l with
  | some r => some ([], r)
  | none =>
   match n with
   | 0 => none
   | n + 1 =>
    match (if first then some l else pre [44] l) with
    | none => none
    | some l1 =>
     match one l1 with
     | none => none
     | some r => (argsM one n false r).map fun p => (l1.take (l1.length - r.length) :: p.1, p.2)
def resB : Bs → Bool
 | [] => false
 | c :: _ => !(c == 44 || c == 41)
def resM (one : Bs → Option Bs) (l : Bs) : Option (Bs × Bs) := if resB l then (one l).map fun r => (l.take (l.length - r.length), r) else some ([], l)
def funM (one : Bs → Option Bs) (l : Bs) : Option (List Bs × Bs) :=
 (pre bFunc l).bind fun l1 => (argsM one 4 true l1).bind fun p => (resM one p.2).map fun q => (p.1 ++ [q.1], q.2)
def oneM : Nat → Bs → Option Bs
 | 0, _ => none
 | f + 1, l => (wordM l).or ((funM (oneM f) l).map (·.2))
def validB (l : Bs) : Bool := decide (l.length ≤ 100) && (oneM 101 l == some [])
def partsM (l : Bs) : Option (List Bs) := if l.length ≤ 100 then (match funM (oneM 100) l with | some (ps, []) => some ps | _ => none) else none

theorem wordF_app : ∀ {ks : List Bs} {l r : Bs}, wordF ks l = some r → ∃ k ∈ ks, l = k ++ r
 | [], l, r, h => by cases h
 | k :: ks, l, r, h => by
  unfold wordF at h
  rw [Option.or_eq_some_iff] at h
  rcases h with h | ⟨_, h⟩
  ·exact ⟨k, List.mem_cons_self .., pre_iff.1 h⟩
  ·obtain ⟨k', h1, h2⟩ := wordF_app h
   exact ⟨k', List.mem_cons_of_mem _ h1, h2⟩
def Ends (one : Bs → Option Bs) : Prop := ∀ l r, one l = some r → ∃ p, p ≠ [] ∧ l = p ++ r
theorem take_of (p r : Bs) : (p ++ r).take ((p ++ r).length - r.length) = p := by
 rw [List.length_append, Nat.add_sub_cancel, List.take_left]
theorem argsM_ends {one : Bs → Option Bs} (h : Ends one) : ∀ {n : Nat} {f : Bool} {l : Bs} {p : List Bs × Bs}, argsM one n f l = some p → ∃ q, q ≠ [] ∧ l = q ++ p.2 := by
 intro n
 induction n with
 | zero =>
  intro f l p hp
  unfold argsM at hp
  split at hp
  ·rename_i r hr
   cases hp
   exact ⟨[41], by simp, pre_iff.1 hr⟩
  ·cases hp
 | succ n ih =>
  intro f l p hp
  unfold argsM at hp
  split at hp
  ·rename_i r hr
   cases hp
   exact ⟨[41], by simp, pre_iff.1 hr⟩
  ·dsimp only at hp
   split at hp
   ·cases hp
   ·rename_i l1 hl1
    split at hp
    ·cases hp
    ·rename_i r hr
     rw [Option.map_eq_some_iff] at hp
     obtain ⟨p', h1, rfl⟩ := hp
     obtain ⟨q, hq, e⟩ := ih h1
     obtain ⟨q1, hq1, e1⟩ := h _ _ hr
     have e2 : ∃ c : Bs, l = c ++ l1 := by
      split at hl1
      ·cases hl1; exact ⟨[], rfl⟩
      ·exact ⟨[44], pre_iff.1 hl1⟩
     obtain ⟨c, e2⟩ := e2
     refine ⟨c ++ q1 ++ q, by simp [hq], ?_⟩
     rw [e2, e1, e]; simp
theorem funM_ends {one : Bs → Option Bs} (h : Ends one) {l : Bs} {p : List Bs × Bs} (hp : funM one l = some p) : ∃ q, q ≠ [] ∧ l = q ++ p.2 := by
 unfold funM at hp
 rw [Option.bind_eq_some_iff] at hp
 obtain ⟨l1, h1, hp⟩ := hp
 rw [Option.bind_eq_some_iff] at hp
 obtain ⟨p1, h2, hp⟩ := hp
 rw [Option.map_eq_some_iff] at hp
 obtain ⟨q1, h3, rfl⟩ := hp
 obtain ⟨q, hq, e⟩ := argsM_ends h h2
 have e1 := pre_iff.1 h1
 have e3 : ∃ c : Bs, p1.2 = c ++ q1.2 := by
  unfold resM at h3
  split at h3
  ·rw [Option.map_eq_some_iff] at h3
   obtain ⟨r, h4, rfl⟩ := h3
   obtain ⟨c, _, h5⟩ := h _ _ h4
   exact ⟨c, h5⟩
  ·cases h3; exact ⟨[], rfl⟩
 obtain ⟨c, e3⟩ := e3
 exact ⟨bFunc ++ q ++ c, by simp [bFunc], by rw [e1, e, e3]; simp⟩
theorem words_ne : ∀ k ∈ tyWords, k ≠ [] := by decide
theorem oneM_ends : ∀ f, Ends (oneM f)
 | 0, l, r, h => by cases h
 | f + 1, l, r, h => by
  unfold oneM at h
  rw [Option.or_eq_some_iff] at h
  rcases h with h | ⟨_, h⟩
  ·obtain ⟨k, h1, h2⟩ := wordF_app h
   exact ⟨k, words_ne k h1, h2⟩
  ·rw [Option.map_eq_some_iff] at h
   obtain ⟨p, h1, rfl⟩ := h
   exact funM_ends (oneM_ends f) h1

def stops (r : Bs) : Prop := resB r = false
theorem wordM_of {k : Bs} (h : k ∈ tyWords) (r : Bs) : wordM (k ++ r) = some r := by
 simp only [tyWords, List.mem_cons, List.not_mem_nil, or_false] at h
 rcases h with rfl | rfl | rfl | rfl | rfl | rfl <;> simp [wordM, tyWords, wordF, pre, bInt, bBool, bString, bAny, bInts, bPtr]
theorem wordM_func (r : Bs) : wordM (bFunc ++ r) = none := by
 simp [wordM, tyWords, wordF, pre, bInt, bBool, bString, bAny, bInts, bPtr, bFunc]
theorem pre_self (k r : Bs) : pre k (k ++ r) = some r := pre_iff.2 rfl
theorem pre_cons_ne {c d : UInt8} (h : c ≠ d) (l : Bs) : pre [c] (d :: l) = none := by
 unfold pre; rw [if_neg]; simpa using fun e => h e.symm
def Tr (N : Nat) (one one2 : Bs → Option Bs) : Prop := ∀ p r r', p.length ≤ N → stops r' → one (p ++ r) = some r → one2 (p ++ r') = some r'
theorem argsM_head {one : Bs → Option Bs} {n : Nat} {l : Bs} {p : List Bs × Bs} (h : argsM one n false l = some p) : ∃ c t, l = c :: t ∧ (c = 44 ∨ c = 41) := by
 unfold argsM at h
 split at h
 ·rename_i r hr
  exact ⟨41, r, pre_iff.1 hr, .inr rfl⟩
 ·split at h
  ·cases h
  ·split at h
   ·cases h
   ·rename_i l1 hl1
    rw [if_neg (by decide)] at hl1
    exact ⟨44, l1, pre_iff.1 hl1, .inl rfl⟩
theorem stops_of {c : UInt8} {t : Bs} (h : c = 44 ∨ c = 41) : stops (c :: t) := by
 rcases h with rfl | rfl <;> rfl
theorem argsM_tr {N : Nat} {one one2 : Bs → Option Bs} (hE : Ends one) (h : Tr N one one2) : ∀ {n : Nat} {f : Bool} {q r r' : Bs} {ps : List Bs}, q.length ≤ N → argsM one n f (q ++ r) = some (ps, r) → argsM one2 n f (q ++ r') = some (ps, r') := by
 intro n
 induction n with
 | zero =>
  intro f q r r' ps hq hp
  unfold argsM at hp ⊢
  split at hp
  ·rename_i r1 hr1
   cases hp
   have e : q = [41] := List.append_cancel_right (pre_iff.1 hr1)
   rw [e, pre_self]
  ·cases hp
 | succ n ih =>
  intro f q r r' ps hq hp
  unfold argsM at hp ⊢
  split at hp
  ·rename_i r1 hr1
   cases hp
   have e : q = [41] := List.append_cancel_right (pre_iff.1 hr1)
   rw [e, pre_self]
  ·rename_i hn
   dsimp only at hp ⊢
   split at hp
   ·cases hp
   ·rename_i l1 hl1
    split at hp
    ·cases hp
    ·rename_i r0 hr0
     rw [Option.map_eq_some_iff] at hp
     obtain ⟨p', h1, h2⟩ := hp
     obtain ⟨ps', r1⟩ := p'
     simp only [Prod.mk.injEq] at h2
     obtain ⟨h2, rfl⟩ := h2
     obtain ⟨q2, hq2, e2⟩ := argsM_ends hE h1
     obtain ⟨q1, hq1, e1⟩ := hE _ _ hr0
     dsimp only at e2
     subst e2
     subst e1
     have e3 : ∃ c : Bs, q = c ++ q1 ++ q2 ∧ (∀ z, (if f = true then some (q ++ z) else pre [44] (q ++ z)) = some (q1 ++ q2 ++ z)) := by
      cases f with
      | true =>
       rw [if_pos rfl] at hl1
       have e : q = q1 ++ q2 := List.append_cancel_right (show q ++ r1 = (q1 ++ q2) ++ r1 by rw [List.append_assoc]; exact Option.some.inj hl1)
       exact ⟨[], by simpa using e, fun z => by rw [if_pos rfl, e]⟩
      | false =>
       rw [if_neg (by decide)] at hl1
       have e : q = [44] ++ (q1 ++ q2) := List.append_cancel_right (show q ++ r1 = ([44] ++ (q1 ++ q2)) ++ r1 by rw [pre_iff.1 hl1]; simp)
       exact ⟨[44], by simpa using e, fun z => by rw [if_neg (by decide), e]; exact pre_iff.2 (by simp)⟩
     obtain ⟨c, e3, e4⟩ := e3
     obtain ⟨c0, t0, e5, e6⟩ := argsM_head h1
     have e7 : ∀ z, ∃ t, q2 ++ z = c0 :: t := by
      intro z
      cases q2 with
      | nil => exact absurd rfl hq2
      | cons a q2 => simp only [List.cons_append, List.cons.injEq] at e5; exact ⟨q2 ++ z, by rw [e5.1]; rfl⟩
     obtain ⟨t1, e8⟩ := e7 r'
     have hlen : q.length = c.length + q1.length + q2.length := by rw [e3, List.length_append, List.length_append]
     have g1 := h q1 (q2 ++ r1) (q2 ++ r') (by omega) (by rw [e8]; exact stops_of e6) hr0
     have g2 := ih (r' := r') (by omega) h1
     have hn' : pre [41] (q ++ r') = none := by
      cases q with
      | nil => simp at hlen; exact absurd (List.length_eq_zero_iff.1 (by omega)) hq2
      | cons a q =>
       by_cases ha : a = 41
       ·subst ha; exact absurd hn (by rw [show (41 :: q) ++ r1 = [41] ++ (q ++ r1) by rfl, pre_self]; simp)
       ·exact pre_cons_ne (fun e => ha e.symm) _
     rw [hn', e4 r']
     dsimp only
     rw [List.append_assoc, g1]
     dsimp only
     rw [g2, Option.map_some, take_of, ← h2, take_of]
theorem resM_tr {N : Nat} {one one2 : Bs → Option Bs} (hE : Ends one) (h : Tr N one one2) {q r r' p : Bs} (hq : q.length ≤ N) (hs : stops r') (hp : resM one (q ++ r) = some (p, r)) : resM one2 (q ++ r') = some (p, r') := by
 unfold resM at hp ⊢
 split at hp
 ·rename_i hb
  rw [Option.map_eq_some_iff] at hp
  obtain ⟨r1, h1, h2⟩ := hp
  simp only [Prod.mk.injEq] at h2
  obtain ⟨h2, rfl⟩ := h2
  have g := h q r1 r' hq hs h1
  obtain ⟨c, hc, e⟩ := hE _ _ h1
  have hb' : resB (q ++ r') = true := by
   cases q with
   | nil => exact absurd (List.append_cancel_right (show [] ++ r1 = c ++ r1 from e)).symm hc
   | cons a q => exact hb
  rw [if_pos hb', g, Option.map_some, take_of, ← h2, take_of]
 ·rename_i hb
  simp only [Option.some.injEq, Prod.mk.injEq] at hp
  obtain ⟨rfl, hp⟩ := hp
  have e : q = [] := List.append_cancel_right (show q ++ r = [] ++ r from hp)
  subst e
  rw [if_neg (by unfold stops at hs; simp [hs])]; rfl
theorem resM_ends {one : Bs → Option Bs} (hE : Ends one) {l : Bs} {p : Bs × Bs} (hp : resM one l = some p) : l = p.1 ++ p.2 ∧ (p.1 = [] ∨ one l = some p.2) := by
 unfold resM at hp
 split at hp
 ·rw [Option.map_eq_some_iff] at hp
  obtain ⟨r1, h1, rfl⟩ := hp
  obtain ⟨c, hc, rfl⟩ := hE _ _ h1
  rw [take_of]; exact ⟨rfl, .inr h1⟩
 ·cases hp; exact ⟨rfl, .inl rfl⟩
theorem funM_parts {one : Bs → Option Bs} {l : Bs} {p : List Bs × Bs} (hp : funM one l = some p) : ∃ l1 ps l2 q, l = bFunc ++ l1 ∧ argsM one 4 true l1 = some (ps, l2) ∧ resM one l2 = some (q, p.2) ∧ p.1 = ps ++ [q] := by
 unfold funM at hp
 rw [Option.bind_eq_some_iff] at hp
 obtain ⟨l1, h1, hp⟩ := hp
 rw [Option.bind_eq_some_iff] at hp
 obtain ⟨p1, h2, hp⟩ := hp
 rw [Option.map_eq_some_iff] at hp
 obtain ⟨q1, h3, rfl⟩ := hp
 exact ⟨l1, p1.1, p1.2, q1.1, pre_iff.1 h1, h2, h3, rfl⟩
theorem funM_mk {one : Bs → Option Bs} {l1 l2 q r : Bs} {ps : List Bs} (h1 : argsM one 4 true l1 = some (ps, l2)) (h2 : resM one l2 = some (q, r)) : funM one (bFunc ++ l1) = some (ps ++ [q], r) := by
 unfold funM; rw [pre_self, Option.bind_some, h1, Option.bind_some, h2]; rfl
theorem funM_tr {N : Nat} {one one2 : Bs → Option Bs} (hE : Ends one) (h : Tr N one one2) {q r r' : Bs} {ps : List Bs} (hq : q.length ≤ N + 5) (hs : stops r') (hp : funM one (q ++ r) = some (ps, r)) : funM one2 (q ++ r') = some (ps, r') := by
 obtain ⟨l1, ps1, l2, c, e1, h1, h2, h3⟩ := funM_parts hp
 dsimp only at h2 h3
 obtain ⟨q1, _, e2⟩ := argsM_ends hE h1
 dsimp only at e2
 obtain ⟨e3, _⟩ := resM_ends hE h2
 dsimp only at e3
 have e4 : q = bFunc ++ (q1 ++ c) := List.append_cancel_right (show q ++ r = (bFunc ++ (q1 ++ c)) ++ r by rw [e1, e2, e3]; simp)
 have hl : q.length = 5 + (q1.length + c.length) := by rw [e4]; simp [bFunc]; omega
 subst e2
 have g1 := argsM_tr (r' := c ++ r') hE h (by omega) h1
 subst e3
 have g2 := resM_tr (r' := r') hE h (by omega) hs h2
 rw [e4, h3, List.append_assoc, List.append_assoc]
 exact funM_mk g1 g2
theorem oneM_tr : ∀ (f g N : Nat), N ≤ g → Tr N (oneM f) (oneM g)
 | 0, g, N, _ => fun p r r' _ _ h => by cases h
 | f + 1, g, N, hN => fun p r r' hp hs h => by
  obtain ⟨c, hc, e⟩ := oneM_ends _ _ _ h
  have e : p = c := List.append_cancel_right e
  subst e
  obtain ⟨g, rfl⟩ : ∃ g', g = g' + 1 := by
   cases g with
   | zero => exact absurd (List.length_eq_zero_iff.1 (by omega)) hc
   | succ g => exact ⟨g, rfl⟩
  unfold oneM at h ⊢
  rw [Option.or_eq_some_iff] at h ⊢
  rcases h with h | ⟨h1, h⟩
  ·obtain ⟨k, h1, h2⟩ := wordF_app h
   have e : p = k := List.append_cancel_right h2
   subst e
   exact .inl (wordM_of h1 r')
  ·rw [Option.map_eq_some_iff] at h
   obtain ⟨⟨ps, r1⟩, h2, h3⟩ := h
   dsimp only at h3; subst h3
   have g1 := funM_tr (N := N - 5) (r' := r') (oneM_ends f) (oneM_tr f g (N - 5) (by omega)) (by omega) hs h2
   obtain ⟨l1, _, _, _, e1, _⟩ := funM_parts g1
   exact .inr ⟨by rw [e1]; exact wordM_func _, by rw [g1]; rfl⟩

def glue : Bool → List Bs → Bs
 | _, [] => []
 | f, p :: t => (if f then [] else [44]) ++ p ++ glue false t
theorem glue_snoc : ∀ (f : Bool) (ps : List Bs) (p : Bs), glue f (ps ++ [p]) = glue f ps ++ (if f = true ∧ ps = [] then [] else [44]) ++ p
 | f, [], p => by cases f <;> simp [glue]
 | f, a :: t, p => by
  have := glue_snoc false t p
  simp only [List.cons_append, glue, this]; simp
theorem argsM_glue {one : Bs → Option Bs} (hE : Ends one) : ∀ {n : Nat} {f : Bool} {l r : Bs} {ps : List Bs}, argsM one n f l = some (ps, r) → l = glue f ps ++ [41] ++ r ∧ ps.length ≤ n ∧ ∀ p ∈ ps, ∃ r0, one (p ++ r0) = some r0 := by
 intro n
 induction n with
 | zero =>
  intro f l r ps hp
  unfold argsM at hp
  split at hp
  ·rename_i r1 hr1
   cases hp
   exact ⟨by rw [pre_iff.1 hr1]; rfl, by simp, by simp⟩
  ·cases hp
 | succ n ih =>
  intro f l r ps hp
  unfold argsM at hp
  split at hp
  ·rename_i r1 hr1
   cases hp
   exact ⟨by rw [pre_iff.1 hr1]; rfl, by simp, by simp⟩
  ·dsimp only at hp
   split at hp
   ·cases hp
   ·rename_i l1 hl1
    split at hp
    ·cases hp
    ·rename_i r0 hr0
     rw [Option.map_eq_some_iff] at hp
     obtain ⟨⟨ps', r1⟩, h1, h2⟩ := hp
     simp only [Prod.mk.injEq] at h2
     obtain ⟨rfl, rfl⟩ := h2
     obtain ⟨g1, g2, g3⟩ := ih h1
     obtain ⟨q1, hq1, rfl⟩ := hE _ _ hr0
     rw [take_of]
     refine ⟨?_, by simpa using g2, ?_⟩
     ·cases f with
      | true => rw [if_pos rfl] at hl1; rw [Option.some.inj hl1]; simp [glue, g1]
      | false => rw [if_neg (by decide)] at hl1; rw [pre_iff.1 hl1]; simp [glue, g1]
     ·intro p hp
      rcases List.mem_cons.1 hp with rfl | hp
      ·exact ⟨r0, hr0⟩
      ·exact g3 p hp
theorem argsM_mk {one : Bs → Option Bs} : ∀ {n : Nat} {f : Bool} {r : Bs} {ps : List Bs}, ps.length ≤ n → (∀ p ∈ ps, (∃ c t, p = c :: t ∧ c ≠ 41) ∧ ∀ r', stops r' → one (p ++ r') = some r') → argsM one n f (glue f ps ++ ([41] ++ r)) = some (ps, r) := by
 intro n
 induction n with
 | zero =>
  intro f r ps hl _
  obtain rfl := List.eq_nil_of_length_eq_zero (Nat.le_zero.1 hl)
  unfold argsM
  rw [show glue f [] ++ ([41] ++ r) = [41] ++ r by rfl, pre_self]
 | succ n ih =>
  intro f r ps hl h
  cases ps with
  | nil =>
   unfold argsM
   rw [show glue f [] ++ ([41] ++ r) = [41] ++ r by rfl, pre_self]
  | cons p t =>
   obtain ⟨⟨c, t0, e, hc⟩, h1⟩ := h p (List.mem_cons_self ..)
   have g := ih (f := false) (r := r) (ps := t) (by simpa using hl) (fun p hp => h p (List.mem_cons_of_mem _ hp))
   have hst : stops (glue false t ++ ([41] ++ r)) := by
    cases t with
    | nil => rfl
    | cons a t => rfl
   have h1 := h1 _ hst
   unfold argsM
   have e0 : pre [41] (glue f (p :: t) ++ ([41] ++ r)) = none := by
    cases f with
    | true => rw [e]; exact pre_cons_ne (fun e => hc e.symm) _
    | false => exact pre_cons_ne (by decide) _
   rw [e0]
   dsimp only
   have e1 : (if f = true then some (glue f (p :: t) ++ ([41] ++ r)) else pre [44] (glue f (p :: t) ++ ([41] ++ r))) = some (p ++ (glue false t ++ ([41] ++ r))) := by
    cases f with
    | true => rw [if_pos rfl]; simp [glue]
    | false => rw [if_neg (by decide)]; exact pre_iff.2 (by simp [glue])
   rw [e1]
   dsimp only
   rw [h1]
   dsimp only
   rw [g, Option.map_some, take_of]
theorem valid_cases {l : Bs} (h : validB l = true) : l ∈ tyWords ∨ ∃ t, l = bFunc ++ t := by
 unfold validB at h
 rw [Bool.and_eq_true, beq_iff_eq] at h
 obtain ⟨_, h⟩ := h
 unfold oneM at h
 rw [Option.or_eq_some_iff] at h
 rcases h with h | ⟨_, h⟩
 ·obtain ⟨k, h1, h2⟩ := wordF_app h
  rw [List.append_nil] at h2; subst h2; exact .inl h1
 ·rw [Option.map_eq_some_iff] at h
  obtain ⟨p, h1, _⟩ := h
  obtain ⟨l1, _, _, _, e, _⟩ := funM_parts h1
  exact .inr ⟨l1, e⟩
theorem parts_back {l : Bs} {qs : List Bs} (h : partsM l = some qs) : ∃ ps q, qs = ps ++ [q] ∧ ps.length ≤ 4 ∧ (∀ p ∈ ps, validB p = true) ∧ (q ≠ [] → validB q = true) ∧ l = bFunc ++ (glue true ps ++ ([41] ++ q)) ∧ l.length ≤ 100 ∧ validB l = true := by
 unfold partsM at h
 split at h
 ·rename_i hl
  split at h
  ·rename_i qs' h1
   cases h
   have hv : validB l = true := by
    unfold validB
    rw [Bool.and_eq_true, beq_iff_eq]
    refine ⟨decide_eq_true hl, ?_⟩
    obtain ⟨l1, _, _, _, e, _⟩ := funM_parts h1
    show (wordM l).or ((funM (oneM 100) l).map (·.2)) = some []
    rw [h1, e, wordM_func]; rfl
   obtain ⟨l1, ps, l2, q, e1, h2, h3, h4⟩ := funM_parts h1
   dsimp only at h3 h4
   obtain ⟨g1, g2, g3⟩ := argsM_glue (oneM_ends 100) h2
   obtain ⟨g4, g5⟩ := resM_ends (oneM_ends 100) h3
   dsimp only at g4 g5
   rw [List.append_nil] at g4
   subst g4
   have hsub : ∀ p, (∃ a b, l = a ++ (p ++ b)) → p.length ≤ 100 := by
    rintro p ⟨a, b, e⟩
    rw [e] at hl; simp at hl; omega
   have hval : ∀ p r0, p.length ≤ 100 → oneM 100 (p ++ r0) = some r0 → validB p = true := by
    intro p r0 hp h
    unfold validB
    rw [Bool.and_eq_true, beq_iff_eq]
    refine ⟨decide_eq_true hp, ?_⟩
    have := oneM_tr 100 101 101 (Nat.le_refl _) p r0 [] (by omega) rfl h
    simpa using this
   have hgl : ∀ (f : Bool) (ps : List Bs) (p : Bs), p ∈ ps → p.length ≤ (glue f ps).length := by
    intro f ps p hp
    induction ps generalizing f with
    | nil => cases hp
    | cons a t ih =>
     rcases List.mem_cons.1 hp with rfl | hp
     ·simp [glue]; omega
     ·have := ih false hp
      simp [glue]; omega
   have hlen : l.length = 5 + (glue true ps).length + 1 + l2.length := by rw [e1, g1]; simp [bFunc]; omega
   refine ⟨ps, l2, h4, g2, fun p hp => ?_, fun hq => ?_, by rw [e1, g1]; simp, hl, hv⟩
   ·obtain ⟨r0, h5⟩ := g3 p hp
    have := hgl true ps p hp
    exact hval p r0 (by omega) h5
   ·rcases g5 with g5 | g5
    ·exact absurd g5 hq
    ·exact hval l2 [] (by omega) (by simpa using g5)
  ·cases h
 ·cases h
theorem valid_head {p : Bs} (h : validB p = true) : ∃ c t, p = c :: t ∧ c ≠ 41 ∧ resB p = true := by
 rcases valid_cases h with h | ⟨t, rfl⟩
 ·simp only [tyWords, List.mem_cons, List.not_mem_nil, or_false] at h
  rcases h with rfl | rfl | rfl | rfl | rfl | rfl <;> exact ⟨_, _, rfl, by decide, by decide⟩
 ·exact ⟨_, _, rfl, by decide, rfl⟩
theorem parts_made {ps : List Bs} {q : Bs} (h4 : ps.length ≤ 4) (hp : ∀ p ∈ ps, validB p = true) (hq : q ≠ [] → validB q = true) (hl : (bFunc ++ (glue true ps ++ ([41] ++ q))).length ≤ 100) : partsM (bFunc ++ (glue true ps ++ ([41] ++ q))) = some (ps ++ [q]) := by
 have hone : ∀ p, validB p = true → p.length ≤ 100 → ∀ r', stops r' → oneM 100 (p ++ r') = some r' := by
  intro p hv hp r' hs
  unfold validB at hv
  rw [Bool.and_eq_true, beq_iff_eq] at hv
  exact oneM_tr 101 100 100 (Nat.le_refl _) p [] r' hp hs (by simpa using hv.2)
 have hlv : ∀ p, validB p = true → p.length ≤ 100 := by
  intro p hv
  unfold validB at hv
  rw [Bool.and_eq_true, decide_eq_true_eq] at hv
  exact hv.1
 have h1 := argsM_mk (one := oneM 100) (n := 4) (f := true) (r := q) (ps := ps) h4 (fun p h => ⟨by obtain ⟨c, t, e, h1, _⟩ := valid_head (hp p h); exact ⟨c, t, e, h1⟩, hone p (hp p h) (hlv p (hp p h))⟩)
 have h2 : resM (oneM 100) q = some (q, []) := by
  cases q with
  | nil => rfl
  | cons a q =>
   have hv := hq (by simp)
   obtain ⟨_, _, _, _, hr⟩ := valid_head hv
   have := hone _ hv (hlv _ hv) [] rfl
   rw [List.append_nil] at this
   unfold resM
   rw [if_pos hr, this]; simp
 unfold partsM
 rw [if_pos hl, funM_mk h1 h2]
theorem parts_valid {l : Bs} {qs : List Bs} (h : partsM l = some qs) : validB l = true := by
 obtain ⟨_, _, _, _, _, _, _, _, h⟩ := parts_back h; exact h
end Go.Proofs.Ytcjgagmcnmmfoaa.Ty

namespace Go.Proofs.Ytcjgagmcnmmfoaa
open Go.RowKit

theorem blk_set {w : World} {b o : Nat} {cs : Array Value} {T : TypeId} {fr : Nat × Nat} (h : w.heap[b]? = some (.cells cs T fr)) (v : Value) : (w.setCell ⟨b, o, none⟩ v).heap[b]? = some (.cells (cs.setIfInBounds o v) T fr) := by
 have hlt := (Array.getElem?_eq_some_iff.1 h).1
 have h' : w.heap[b] = .cells cs T fr := (Array.getElem?_eq_some_iff.1 h).2
 show (w.heap.modify b _)[b]? = _
 rw [Array.getElem?_eq_getElem (by simpa using hlt), Array.getElem_modify_self, h']
 rfl
theorem blk_far {w : World} {b : Nat} {p : Addr} (hne : b ≠ p.block) (v : Value) : (w.setCell p v).heap[b]? = w.heap[b]? := by
 show (w.heap.modify p.block _)[b]? = _
 by_cases hb : b < w.heap.size
 ·rw [Array.getElem?_eq_getElem (by simpa using hb), Array.getElem?_eq_getElem hb, Array.getElem_modify_of_ne (Ne.symm hne)]
 ·rw [Array.getElem?_eq_none (by simpa using hb), Array.getElem?_eq_none (by omega)]
theorem blk_new (w : World) (o : Obj) : (w.alloc o).heap[w.heap.size]? = some o := by
 show (w.heap.push o)[w.heap.size]? = _
 rw [Array.getElem?_push, if_pos rfl]
theorem blk_old {w : World} {b : Nat} {x : Obj} (h : w.heap[b]? = some x) (o : Obj) : (w.alloc o).heap[b]? = some x := by
 have hlt := (Array.getElem?_eq_some_iff.1 h).1
 rw [Below.heap_alloc _ _ _ hlt]; exact h
theorem blk_lt {w : World} {b : Nat} {x : Obj} (h : w.heap[b]? = some x) : b < w.heap.size := (Array.getElem?_eq_some_iff.1 h).1
theorem blk_cell {w : World} {b o : Nat} {cs : Array Value} {T : TypeId} {fr : Nat × Nat} {v : Value} (h : w.heap[b]? = some (.cells cs T fr)) (hv : cs[o]? = some v) : w.cell? ⟨b, o, none⟩ = some v := by simp [World.cell?, h, hv]
theorem blk_free {w : World} {b o : Nat} {cs : Array Value} {T : TypeId} (h : w.heap[b]? = some (.cells cs T (0, 0))) : w.frozen? ⟨b, o, none⟩ = false := by simp [World.frozen?, h]
theorem grown_setCell {w : World} {b o : Nat} (v : Value) : w.grownBy (w.setCell ⟨b, o, none⟩ v) (some b) :=
 ⟨rfl, rfl, rfl, by simp [World.setCell], fun k hk hne => blk_far (p := ⟨b, o, none⟩) (fun e => hne (by rw [e])) v⟩
theorem grown_drewN (w : World) (n : Nat) (row : Option Nat) : w.grownBy (w.drewN n) row := ⟨rfl, rfl, rfl, Nat.le_refl _, fun _ _ _ => rfl⟩
theorem grown_drew (w : World) (row : Option Nat) : w.grownBy w.drew row := ⟨rfl, rfl, rfl, Nat.le_refl _, fun _ _ _ => rfl⟩
theorem grown_kp {w w' : World} (h : Kp w w') (row : Option Nat) : w.grownBy w' row := ⟨h.os, h.tape, h.output, h.size, fun k hk _ => h.block k hk⟩
theorem grown_blk {w w' : World} {row : Option Nat} (hg : w.grownBy w' row) {b : Nat} {x : Obj} (h : w.heap[b]? = some x) (hne : some b ≠ row) : w'.heap[b]? = some x := by
 rw [hg.block b (blk_lt h) hne]; exact h
theorem Below.one {B : Nat} {W w w' : World} {b : Nat} (hb : Below B W w) (hg : w.grownBy w' (some b)) (h : B ≤ b) (hB : B ≤ w.heap.size) : Below B W w' := hb.grown hg hB (fun k hk => by simp at hk; omega)
end Go.Proofs.Ytcjgagmcnmmfoaa

