/-
  Rows of the call's own: one cell written, a row cut, a cell read. No condition.
-/
import Derived.Test.YtgonekmmbeedeaaOwnL
import Derived.Test.YtgonekmmbeedeaaBox
import Derived.Test.YtgonekmmbeedeaaBlk
namespace Go.Proofs.Ytgonekmmbeedeaa
open Go.RowKit
set_option linter.unusedVariables false

theorem rowSet {w : World} {base g n c size j : Nat} {e : TypeId} {xs : List Value} (h : w.ownsRow base e size (.slice (some ⟨g, 0, none⟩) n c) n xs) (hj : j < n * size) (u : Value) : (w.setCell ⟨g, j, none⟩ u).ownsRow base e size (.slice (some ⟨g, 0, none⟩) n c) n (xs.set j u) := by
  obtain ⟨h1, h2⟩ := h
  refine ⟨by rw [List.length_set]; exact h1, .inr ?_⟩
  rcases h2 with ⟨h2, _⟩ | ⟨g', cap', cur, hv, hb, hg, hnc, hm, hsz, htk⟩
  · cases h2
  · cases hv
    refine ⟨g, c, cur.setIfInBounds j u, rfl, hb, blk_set hg u, hnc, hm, by simpa using hsz, ?_⟩
    rw [Array.toList_setIfInBounds, List.take_set, htk]
theorem rowTouch {w : World} {g o : Nat} {xs : Array Value} {e : TypeId} {fr : Nat × Nat} (h : w.heap[g]? = some (.cells xs e fr)) (v : Value) : Touch e w (w.setCell ⟨g, o, none⟩ v) := by
  refine ⟨by simp [World.setCell], fun k x h1 h2 => ?_⟩
  by_cases hk : k = g
  · subst hk
    rw [h] at h1
    exact absurd (Option.some.inj h1).symm (h2 xs fr)
  · rw [blk_far (p := ⟨g, o, none⟩) hk]; exact h1
theorem rowBlk {w : World} {base size n c g : Nat} {e : TypeId} {xs : List Value} (h : w.ownsRow base e size (.slice (some ⟨g, 0, none⟩) n c) n xs) : ∃ cs fr, w.heap[g]? = some (.cells cs e fr) := by
  rcases h.2 with ⟨h2, _⟩ | ⟨g', cap', cur, hv, hb, hg, _⟩
  · cases h2
  · cases hv; exact ⟨_, _, hg⟩
theorem rowGe {w : World} {base size n c g : Nat} {e : TypeId} {xs : List Value} (h : w.ownsRow base e size (.slice (some ⟨g, 0, none⟩) n c) n xs) : base ≤ g ∧ g < w.heap.size := by
  rcases h.2 with ⟨h2, _⟩ | ⟨g', cap', cur, hv, hb, hg, _⟩
  · cases h2
  · cases hv; exact ⟨hb, blk_lt hg⟩
theorem rowSome {w : World} {base size n : Nat} {e : TypeId} {v : Value} {xs : List Value} (h : w.ownsRow base e size v n xs) (hn : 0 < n) : ∃ g c, v = .slice (some ⟨g, 0, none⟩) n c ∧ n ≤ c := by
  rcases h.2 with ⟨_, h2⟩ | ⟨g', cap', cur, hv, hb, hg, hnc, _⟩
  · omega
  · exact ⟨_, _, hv, hnc⟩
theorem rowAt {w : World} {base size n c g j : Nat} {e : TypeId} {xs : List Value} (h : w.ownsRow base e size (.slice (some ⟨g, 0, none⟩) n c) n xs) (hj : j < n * size) : w.cell? ⟨g, j, none⟩ = xs[j]? ∧ w.frozen? ⟨g, j, none⟩ = false := by
  rcases h.2 with ⟨h2, _⟩ | ⟨g', cap', cur, hv, hb, hg, hnc, hm, hsz, htk⟩
  · cases h2
  · cases hv
    have hc : w.cell? ⟨g, j, none⟩ = cur[j]? := by simp [World.cell?, hg]
    refine ⟨?_, blk_free hg⟩
    rw [hc, ← htk, List.getElem?_take, if_pos hj, Array.getElem?_toList]
theorem rowBox {w : World} {base size n c g j : Nat} {e : TypeId} {xs : List Value} (h : w.ownsRow base e size (.slice (some ⟨g, 0, none⟩) n c) n xs) (hj : j < n * size) : BoxAt w g j := by
  have h1 := h.1
  obtain ⟨h2, h3⟩ := rowAt h hj
  exact BoxAt.mk_ (h2.trans (List.getElem?_eq_getElem (by omega))) h3
theorem rowTake {w : World} {base : Nat} {e : TypeId} {size n c k : Nat} {A : Option Addr} {xs : List Value} (h : w.ownsRow base e size (.slice A n c) n xs) (hk : k ≤ n) : w.ownsRow base e size (.slice A k c) k (xs.take (k * size)) := by
  obtain ⟨h1, h2⟩ := h
  have hle := Nat.mul_le_mul_right size hk
  refine ⟨by rw [List.length_take]; omega, ?_⟩
  rcases h2 with ⟨hv, h0⟩ | ⟨g, cap, cur, hv, hb, hg, hnc, hm, hsz, htk⟩
  · injection hv with e1 e2 e3
    subst e1; subst e2; subst e3
    left
    exact ⟨by rw [show k = 0 by omega], by omega⟩
  · injection hv with e1 e2 e3
    subst e1; subst e3
    right
    refine ⟨g, c, cur, rfl, hb, hg, by omega, hm, hsz, ?_⟩
    rw [← htk, List.take_take, Nat.min_eq_left hle]
/-- A row of one type where a cell of another type's block is written. -/
theorem rowOther {w : World} {base size n g o : Nat} {e e' : TypeId} {v : Value} {xs : List Value} (hne : e' ≠ e) (h : w.ownsRow base e' size v n xs) {cs : Array Value} {fr : Nat × Nat} (hg : w.heap[g]? = some (.cells cs e fr)) (u : Value) : (w.setCell ⟨g, o, none⟩ u).ownsRow base e' size v n xs := ownsRow_touch hne h (rowTouch hg u)
end Go.Proofs.Ytgonekmmbeedeaa
