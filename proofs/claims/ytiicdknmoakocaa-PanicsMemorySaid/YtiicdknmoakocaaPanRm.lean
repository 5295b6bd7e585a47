/-
  The law PanicsMemory's roomy state: activations each of whose deferred calls lie ahead of marked room. No condition.
-/
import Derived.Test.YtiicdknmoakocaaPanW
import Derived.Test.YtiicdknmoakocaaRoomy
namespace Go.Proofs.Ytiicdknmoakocaa
open Go.RowKit
set_option linter.unusedVariables false
set_option linter.unusedSimpArgs false

/-- A row of numbers with marked room behind it, in a block from base on. -/
def RmV (w : World) (base : Nat) (d : Value) (ds : List Int) : Prop := ∃ gd, d = .slice (some ⟨gd, 0, none⟩) ds.length (ds.length + 2) ∧ base ≤ gd ∧ RoomAt w gd ds
theorem RmV.kp {w w' : World} {base : Nat} {d : Value} {ds : List Int} (h : RmV w base d ds) (hk : Kp w w') : RmV w' base d ds := by
  obtain ⟨gd, e, h1, h2⟩ := h
  exact ⟨gd, e, h1, h2.kp hk⟩
theorem RmV.touch {w w' : World} {base : Nat} {d : Value} {ds : List Int} {T : TypeId} (h : RmV w base d ds) (ht : Touch T w w') (n : 3 ≠ T) : RmV w' base d ds := by
  obtain ⟨gd, e, h1, h2⟩ := h
  exact ⟨gd, e, h1, ht.2 gd _ h2 (fun _ _ e => by injection e with _ e _; exact n e)⟩
theorem RmV.base_ {w : World} {b c : Nat} {d : Value} {ds : List Int} (h : RmV w c d ds) (hb : b ≤ c) : RmV w b d ds := by
  obtain ⟨gd, e, h1, h2⟩ := h
  exact ⟨gd, e, by omega, h2⟩
/-- The activations of a roomy state. -/
def RmRow (w : World) (base : Nat) (fv : Value) (l : List FrameM) : Prop := ∃ L : List (FrameM × Value), w.ownsRow base 44 5 fv l.length (flatF L) ∧ L.map Prod.fst = l ∧ ∀ x ∈ L, RmV w base x.2 x.1.defers
theorem RmRow.kp {w w' : World} {base : Nat} {fv : Value} {l : List FrameM} (h : RmRow w base fv l) (hk : Kp w w') : RmRow w' base fv l := by
  obtain ⟨L, h1, h2, h3⟩ := h
  exact ⟨L, ownsRow_keep h1 hk, h2, fun x hx => (h3 x hx).kp hk⟩
def MidR (w0 : World) (base : Nat) (fv : Value) (l : List FrameM) (i : Nat) (w : World) : Prop := ∃ a b : List (FrameM × Value), w.ownsRow base 44 5 fv l.length (flatF (a ++ b)) ∧ (a ++ b).map Prod.fst = l ∧ a.length = i ∧ (∀ x ∈ a, RmV w base x.2 x.1.defers) ∧ ∀ x ∈ b, RdInts w0 x.2 x.1.defers
theorem MidR.kp {w0 w w' : World} {base : Nat} {fv : Value} {l : List FrameM} {i : Nat} (h : MidR w0 base fv l i w) (hk : Kp w w') : MidR w0 base fv l i w' := by
  obtain ⟨a, b, h1, h2, h3, h4, h6⟩ := h
  exact ⟨a, b, ownsRow_keep h1 hk, h2, h3, fun x hx => (h4 x hx).kp hk, h6⟩
theorem MidR.touch {w0 w w' : World} {base : Nat} {fv : Value} {l : List FrameM} {i : Nat} {T : TypeId} (h : MidR w0 base fv l i w) (ht : Touch T w w') (n1 : 44 ≠ T) (n2 : 3 ≠ T) : MidR w0 base fv l i w' := by
  obtain ⟨a, b, h1, h2, h3, h4, h6⟩ := h
  exact ⟨a, b, ownsRow_touch n1 h1 ht, h2, h3, fun x hx => (h4 x hx).touch ht n2, h6⟩
/-- One more. -/
theorem MidR.step {w0 w w' : World} {base g c : Nat} {l : List FrameM} {i : Nat} {f : FrameM} {d : Value} (h : MidR w0 base (.slice (some ⟨g, 0, none⟩) l.length c) l i w) (hi : l[i]? = some f) (hk : Kp w w') (ho : RmV w' w.heap.size d f.defers) (hb : base ≤ w.heap.size) : MidR w0 base (.slice (some ⟨g, 0, none⟩) l.length c) l (i + 1) (w'.setCell ⟨g, i * 5 + 4, none⟩ d) := by
  obtain ⟨a, b, h1, h2, h3, h4, h6⟩ := h
  have hab : (a ++ b).length = l.length := by rw [← h2, List.length_map]
  have hil : i < l.length := (List.getElem?_eq_some_iff.1 hi).1
  cases b with
  | nil => rw [List.append_nil] at hab; omega
  | cons x b =>
    have hx : x.1 = f := by
      have := congrArg (fun z => z[i]?) h2
      simp only [List.map_append, List.map_cons] at this
      rw [List.getElem?_append_right (by simp [h3]), List.length_map, h3, Nat.sub_self, hi] at this
      simpa using this
    have h1' := ownsRow_keep h1 hk
    obtain ⟨cs, fr, hbk⟩ := rowBlk h1'
    have ht := rowTouch (o := i * 5 + 4) hbk d
    refine ⟨a ++ [(f, d)], b, ?_, ?_, by simp [h3], fun y hy => ?_, fun y hy => h6 y (List.mem_cons_of_mem _ hy)⟩
    · have h7 := rowSet h1' (show i * 5 + 4 < l.length * 5 by omega) d
      rw [← h3, flatF_set a b x (f, d) 4 (by omega) d (by rw [← hx]; rfl)] at h7
      rw [← h3]
      simpa using h7
    · rw [← h2]; simp [hx]
    · rcases List.mem_append.1 hy with hy | hy
      · exact ((h4 y hy).kp hk).touch ht (by decide)
      · rw [List.mem_singleton] at hy; subst hy
        exact (ho.base_ hb).touch ht (by decide)
theorem MidR.at_ {w0 w : World} {base g c : Nat} {l : List FrameM} {i : Nat} {f : FrameM} (h : MidR w0 base (.slice (some ⟨g, 0, none⟩) l.length c) l i w) (hi : l[i]? = some f) : ∃ d, w.cell? ⟨g, i * 5 + 4, none⟩ = some d ∧ RdInts w0 d f.defers ∧ w.frozen? ⟨g, i * 5 + 4, none⟩ = false ∧ base ≤ g ∧ g < w.heap.size := by
  obtain ⟨a, b, h1, h2, h3, h4, h6⟩ := h
  have hab : (a ++ b).length = l.length := by rw [← h2, List.length_map]
  have hil : i < l.length := (List.getElem?_eq_some_iff.1 hi).1
  cases b with
  | nil => rw [List.append_nil] at hab; omega
  | cons x b =>
    have hx : x.1 = f := by
      have := congrArg (fun z => z[i]?) h2
      simp only [List.map_append, List.map_cons] at this
      rw [List.getElem?_append_right (by simp [h3]), List.length_map, h3, Nat.sub_self, hi] at this
      simpa using this
    obtain ⟨g1, g2⟩ := rowAt h1 (show i * 5 + 4 < l.length * 5 by omega)
    refine ⟨x.2, ?_, by rw [← hx]; exact h6 x (List.mem_cons_self ..), g2, rowGe h1⟩
    rw [g1, ← h3]
    exact flatF_at a b x 4 (by omega)
theorem MidR.done {w0 w : World} {base : Nat} {fv : Value} {l : List FrameM} (h : MidR w0 base fv l l.length w) : RmRow w base fv l := by
  obtain ⟨a, b, h1, h2, h3, h4, h6⟩ := h
  have hab : (a ++ b).length = l.length := by rw [← h2, List.length_map]
  have hb : b = [] := by
    apply List.eq_nil_of_length_eq_zero
    rw [List.length_append] at hab; omega
  subst hb
  rw [List.append_nil] at h1 h2
  exact ⟨a, h1, h2, h4⟩
end Go.Proofs.Ytiicdknmoakocaa
