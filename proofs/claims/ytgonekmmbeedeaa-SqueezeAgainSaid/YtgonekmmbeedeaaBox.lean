/-
  A box of the call's own that is written at an unknown time: what is known of its cells. No condition.
-/
import Derived.Test.YtgonekmmbeedeaaOwnL
namespace Go.Proofs.Ytgonekmmbeedeaa
open Go.RowKit

/-- What a cell holds. -/
def cellD (w : World) (b o : Nat) : Value := (w.cell? ⟨b, o, none⟩).getD undef
/-- The cell is there and may be written. -/
abbrev BoxAt (w : World) (b o : Nat) : Prop := w.cell? ⟨b, o, none⟩ = some (cellD w b o) ∧ w.frozen? ⟨b, o, none⟩ = false
theorem BoxAt.mk_ {w : World} {b o : Nat} {v : Value} (h : w.cell? ⟨b, o, none⟩ = some v) (hf : w.frozen? ⟨b, o, none⟩ = false) : BoxAt w b o := ⟨by unfold cellD; rw [h]; rfl, hf⟩
theorem BoxAt.kp {w w' : World} {b o : Nat} (h : BoxAt w b o) (hk : Kp w w') (hb : b < w.heap.size) : BoxAt w' b o :=
  BoxAt.mk_ ((hk.cells.1 _ _ hb).trans h.1) ((hk.cells.2 _ _ hb).trans h.2)
theorem BoxAt.below {B : Nat} {w w' : World} {b o : Nat} (h : BoxAt w b o) (hk : Below B w w') (hb : b < B) : BoxAt w' b o :=
  BoxAt.mk_ (((below_cells hk).1 _ _ hb).trans h.1) (((below_cells hk).2 _ _ hb).trans h.2)
theorem BoxAt.setCell {w : World} {b o : Nat} (h : BoxAt w b o) (p : Addr) (v : Value) : BoxAt (w.setCell p v) b o := by
  by_cases e : p = ⟨b, o, none⟩
  · subst e
    exact BoxAt.mk_ (World.cell?_setCell_same _ _ _ h.1) ((World.frozen?_setCell _ _ _ _).trans h.2)
  · exact BoxAt.mk_ ((World.cell?_setCell_other _ _ _ _ e).trans h.1) ((World.frozen?_setCell _ _ _ _).trans h.2)
theorem cell_set_far {w : World} {b o b' o' : Nat} {u : Value} (h : w.cell? ⟨b, o, none⟩ = some u) (hne : b ≠ b') (v : Value) : (w.setCell ⟨b', o', none⟩ v).cell? ⟨b, o, none⟩ = some u :=
  (World.cell?_setCell_other _ _ _ _ (fun e => hne (by injection e with e1; exact e1.symm))).trans h
theorem set3_cells {w : World} {b : Nat} (h0 : BoxAt w b 0) (h1 : BoxAt w b 1) (h2 : BoxAt w b 2) (v0 v1 v2 : Value) :
    (((w.setCell ⟨b, 0, none⟩ v0).setCell ⟨b, 1, none⟩ v1).setCell ⟨b, 2, none⟩ v2).cell? ⟨b, 0, none⟩ = some v0 ∧ (((w.setCell ⟨b, 0, none⟩ v0).setCell ⟨b, 1, none⟩ v1).setCell ⟨b, 2, none⟩ v2).cell? ⟨b, 1, none⟩ = some v1 ∧ (((w.setCell ⟨b, 0, none⟩ v0).setCell ⟨b, 1, none⟩ v1).setCell ⟨b, 2, none⟩ v2).cell? ⟨b, 2, none⟩ = some v2 := by
  have k : ∀ (w : World) (i j : Nat) (u v : Value), i ≠ j → w.cell? ⟨b, i, none⟩ = some u → (w.setCell ⟨b, j, none⟩ v).cell? ⟨b, i, none⟩ = some u := fun w i j u v hne h => (World.cell?_setCell_other _ _ _ _ (fun e => hne (by injection e with _ e2; exact e2.symm))).trans h
  refine ⟨k _ _ _ _ _ (by omega) (k _ _ _ _ _ (by omega) (World.cell?_setCell_same _ _ _ h0.1)), k _ _ _ _ _ (by omega) (World.cell?_setCell_same _ _ _ (h1.setCell _ _).1), World.cell?_setCell_same _ _ _ ((h2.setCell _ _).setCell _ _).1⟩
end Go.Proofs.Ytgonekmmbeedeaa
