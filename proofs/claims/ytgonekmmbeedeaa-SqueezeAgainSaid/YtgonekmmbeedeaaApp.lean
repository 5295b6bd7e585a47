/-
  Appends in a region that draws its order; what a step may turn. No condition.
-/
import Derived.Test.YtgonekmmbeedeaaOwnL
import Derived.Test.YtgonekmmbeedeaaBlk
namespace Go.Proofs.Ytgonekmmbeedeaa
open Go.RowKit
set_option linter.unusedVariables false

theorem wp_appP {P : Program} {Q : Exit → Act → World → Prop} {o : Oper} {a : Act} {w0 : World} {t e : TypeId} {z v : Value} {size bytes base n : Nat} {xs : List Value} {K : Act → World → Prop} (E : El P t e z size bytes) (s x : Operand) (ho : o.op = .call { callee := .builtin .append, args := #[s, x], argTypes := #[t, t] })
    (hown : w0.ownsRow base e size v n xs) (hs : a.eval s = v) (news : List Value) (A : Option Addr) (m c : Nat) (hx : a.eval x = .slice A m c) (hl : news.length = m * size)
    (hcell : 0 < m → ∃ ad, A = some ad ∧ ∀ j u, news[j]? = some u → w0.cell? (ad.add j) = some u)
    (h1 : ∀ u ∈ news, u.oneCell' = true) (h63 : n + m ≤ maxLen) (hbytes : (n + m) * bytes ≤ 140737488355328) (hbase : base ≤ w0.heap.size)
    (h : ∀ v' w', w'.ownsRow base e size v' (n + m) (xs ++ news) → w0.grownBy w' v.ownBlock → Moved w0 v v' → Below base w0 w' → K (a.put o.dst v') w') :
    Oper.wp P o a w0 K Q := by
  obtain ⟨v', w', hrun, g1, g2, g3, g4⟩ := run_app E o.type hown news A m c hl hcell h1 h63 hbytes hbase
  unfold Oper.wp execOp
  simp only [ho, resolve, invoke, builtin, Sem.run_bind, Sem.run_pure, Result.andThen_ok, List.map_toArray, List.map_cons, List.map_nil, hs, hx, hrun]
  exact h v' w' g1 g2 g3 g4
/-- Blocks from B on are as they were. -/
def KpF (B : Nat) (a b : World) : Prop := ∀ (k : Nat) (o : Obj), B ≤ k → a.heap[k]? = some o → b.heap[k]? = some o
theorem KpF.of_kp {B : Nat} {a b : World} (h : Kp a b) : KpF B a b := fun k o _ ho => (h.block k (Array.getElem?_eq_some_iff.1 ho).1).trans ho
theorem KpF.of_grown {B : Nat} {a b : World} {row : Option Nat} (h : a.grownBy b row) (hr : ∀ g, row = some g → g < B) : KpF B a b := fun k o hk ho => (h.block k (Array.getElem?_eq_some_iff.1 ho).1 (fun e => by have := hr k e.symm; omega)).trans ho
theorem KpF.setCell {B g i : Nat} {a : World} (hg : g < B) (v : Value) : KpF B a (a.setCell ⟨g, i, none⟩ v) := fun k o hk ho => (blk_far (p := ⟨g, i, none⟩) (by show k ≠ g; omega) v).trans ho
/-- A literal row of one element that was just laid. -/
def LitAt (B : Nat) (T : TypeId) (cs : Array Value) (y : Value) (u : World) : Prop := ∃ b, y = .slice (some ⟨b, 0, none⟩) 1 1 ∧ B ≤ b ∧ u.heap[b]? = some (.cells cs T (0, 0))
theorem LitAt.keep {B : Nat} {T : TypeId} {cs : Array Value} {y : Value} {u u' : World} (h : LitAt B T cs y u) (hk : KpF B u u') : LitAt B T cs y u' := by
  obtain ⟨b, h1, h2, h3⟩ := h
  exact ⟨b, h1, h2, hk b _ h2 h3⟩
theorem lit_src {T : TypeId} {cs : Array Value} {b : Nat} {u : World} (h : u.heap[b]? = some (.cells cs T (0, 0))) : ∀ j x, cs.toList[j]? = some x → u.cell? ((⟨b, 0, none⟩ : Addr).add j) = some x := by
  intro j x hj
  have e : (⟨b, 0, none⟩ : Addr).add j = ⟨b, j, none⟩ := by unfold Addr.add; split <;> simp_all
  rw [e]
  exact blk_cell h (by rw [← Array.getElem?_toList]; exact hj)
end Go.Proofs.Ytgonekmmbeedeaa
