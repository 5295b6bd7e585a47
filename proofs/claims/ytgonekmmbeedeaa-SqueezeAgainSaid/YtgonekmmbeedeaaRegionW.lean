/-
  A region that draws its order and holds two stores of one cell each, in any order. No condition.
-/
import Derived.Test.YtgonekmmbeedeaaRegionP
namespace Go.Proofs.Ytgonekmmbeedeaa
open Go.RowKit
set_option linter.unusedVariables false

theorem setCell_comm (w : World) (g o h p : Nat) (v u : Value) (hne : ¬ (g = h ∧ o = p)) : (w.setCell ⟨g, o, none⟩ v).setCell ⟨h, p, none⟩ u = (w.setCell ⟨h, p, none⟩ u).setCell ⟨g, o, none⟩ v := by
  have e : ((w.setCell ⟨g, o, none⟩ v).setCell ⟨h, p, none⟩ u).heap = ((w.setCell ⟨h, p, none⟩ u).setCell ⟨g, o, none⟩ v).heap := by
    simp only [World.setCell]
    apply Array.ext_getElem?
    intro k
    simp only [Array.getElem?_modify]
    by_cases h1 : g = k
    · subst h1
      by_cases h2 : h = g
      · subst h2
        have h3 : o ≠ p := fun he => hne ⟨rfl, he⟩
        cases w.heap[h]? with
        | none => simp
        | some ob =>
          cases ob with
          | cells c T fr => simp [Array.setIfInBounds_comm _ _ h3]
          | _ => simp
      · simp [h2]
    · simp [h1]
  have e2 : ∀ (a b : World), a.heap = b.heap → { a with heap := b.heap } = a := fun a b h => by rw [← h]
  simp only [World.setCell] at e ⊢
  rw [e]
/-- The world where some of the two stores are done. -/
def twoAt (w : World) (p1 p2 : Addr) (v1 v2 : Value) (b1 b2 : Bool) : World :=
  let a := if b1 then w.setCell p1 v1 else w
  if b2 then a.setCell p2 v2 else a
def OpStepT (P : Program) (ops : Array Oper) (Q : Exit → Act → World → Prop) (a0 : Act) (D : List (List Nat)) (G : World → Prop) (Rl : List (Value → World → Prop)) (U : Nat → World → World) (i : Nat) (o : Oper) : Prop :=
  ∀ (x : Nat → Value) (w : World), G w → DepsAll Rl x w (D.getD i []) → ∀ K : Act → World → Prop,
    Shut (∀ v w', w' = U i w → relAt Rl i v w' → K ((putsFrom ops.toList 0 x a0).put o.dst v) w') →
    OpGoal P ops Q o (putsFrom ops.toList 0 x a0) w K
/-- THE RULE. -/
theorem wp_region_two {P : Program} {ops : Array Oper} {Q : Exit → Act → World → Prop} {id : Nat} {a0 : Act} {w : World} (i1 i2 g1 o1 g2 o2 : Nat) (v1 v2 : Value) (D : List (List Nat)) (G : World → Prop) (Rl : List (Value → World → Prop)) (hm : P.follows .mixedOrders = true) (hn : nodupB (dstsOf ops.toList) = true) (he : edgesOk ops (fun i => D.getD i []) = true) (hl : Rl.length = ops.size)
    (hi : (decide (i1 ≠ i2) && decide (i1 < ops.size) && decide (i2 < ops.size)) = true) (hne : ¬ (g1 = g2 ∧ o1 = o2))
    (hw : G w.drew) (hG1 : ∀ u, G u → G (u.setCell ⟨g1, o1, none⟩ v1)) (hG2 : ∀ u, G u → G (u.setCell ⟨g2, o2, none⟩ v2)) (hR : StabT (fun _ _ => True) Rl)
    (hS : AllSteps (OpStepT P ops Q a0 D G Rl (fun i u => if i = i1 then u.setCell ⟨g1, o1, none⟩ v1 else if i = i2 then u.setCell ⟨g2, o2, none⟩ v2 else u)) 0 ops.toList)
    (hE : ∀ x, EndAll x w 0 Rl → EndGoal Q (putsFrom ops.toList 0 x a0) ((w.drew.setCell ⟨g1, o1, none⟩ v1).setCell ⟨g2, o2, none⟩ v2)) :
    (Code.region id ops true).wp P Q a0 w := by
  simp only [Bool.and_eq_true, decide_eq_true_eq] at hi
  obtain ⟨⟨hi0, hi1⟩, hi2⟩ := hi
  have hGt : ∀ b1 b2, G (twoAt w.drew ⟨g1, o1, none⟩ ⟨g2, o2, none⟩ v1 v2 b1 b2) := by
    intro b1 b2
    unfold twoAt
    cases b1 <;> cases b2
    · exact hw
    · exact hG2 _ hw
    · exact hG1 _ hw
    · exact hG2 _ (hG1 _ hw)
  refine wp_region_inv a0 (fun i => D.getD i []) (fun ls x u => u = twoAt w.drew ⟨g1, o1, none⟩ ⟨g2, o2, none⟩ v1 v2 (ls i1) (ls i2) ∧ ∀ j, j < ops.size → ls j = true → relAt Rl j (x j) u) hm (nodup_of hn) he ⟨rfl, fun _ _ h => by cases h⟩ ?_ ?_
  · intro i o ls x u ho hli hd hI K hK
    obtain ⟨hu, hrel⟩ := hI
    have his : i < ops.size := (Array.getElem?_eq_some_iff.1 ho).1
    have hst := AllSteps.at_ hS (i := i) (o := o) (by rw [Array.getElem?_toList]; exact ho)
    rw [Nat.zero_add] at hst
    refine (hst x u (by rw [hu]; exact hGt _ _) (DepsAll.of fun j hj => ?_) K (fun v w' hw' hv => hK v w' ⟨?_, fun j hj hm' => ?_⟩)).go
    · obtain ⟨e, he1, he2, he3⟩ := (edges_at he ho).2 j hj
      have := (edges_at he ho).1 e he1 he2
      exact hrel j (by omega) (hd j hj)
    · rw [hw', hu]
      unfold mark
      dsimp only
      by_cases h1 : i = i1
      · subst h1
        rw [if_pos rfl, if_pos rfl, if_neg (fun h => hi0 h.symm), hli]
        cases ls i2
        · rfl
        · exact setCell_comm _ _ _ _ _ _ _ (fun h => hne ⟨h.1.symm, h.2.symm⟩)
      · rw [if_neg h1]
        by_cases h2 : i = i2
        · subst h2
          rw [if_pos rfl, if_pos rfl, if_neg (fun h => h1 h.symm), hli]
          cases ls i1 <;> rfl
        · rw [if_neg h2, if_neg (fun h => h1 h.symm), if_neg (fun h => h2 h.symm)]
    · unfold upd
      by_cases hji : j = i
      · subst hji; rw [if_pos rfl]; exact hv
      · rw [if_neg hji]
        unfold mark at hm'
        rw [if_neg hji] at hm'
        exact StabT.at_ j hR _ u w' trivial (hrel j hj hm')
  · intro ls x u hall hI
    obtain ⟨hu, hrel⟩ := hI
    rw [hall i1 hi1, hall i2 hi2] at hu
    have := hE x (EndAll.of fun j hj => by rw [Nat.zero_add]; exact StabT.at_ j hR _ u w trivial (hrel j (by omega) (hall j (by omega))))
    rw [hu]
    exact this.go
end Go.Proofs.Ytgonekmmbeedeaa
