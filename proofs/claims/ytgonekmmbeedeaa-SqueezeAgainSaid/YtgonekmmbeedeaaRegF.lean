/-
  One operation of a region against a frame that is a variable. No condition.
-/
import Derived.Test.YtgonekmmbeedeaaReg
import Derived.BigFrame
namespace Go.Proofs.Ytgonekmmbeedeaa
set_option linter.unusedVariables false

/-! ### one operation against a frame that is a variable -/
theorem OpStepK.by_ {P : Program} {ops : Array Oper} {Q : Exit → Act → World → Prop} {a0 : Act} {D : List (List Nat)} {G : World → Prop} {Rl : List (Value → World → Prop)} {i : Nat} {o : Oper}
    (h : ∀ (a : Act) (x : Nat → Value) (w : World), (∀ t : Nat, a.eval (.tmp t) = (putsFrom ops.toList 0 x a0).eval (.tmp t)) → (∀ t : Nat, a.tmps[t]? = (putsFrom ops.toList 0 x a0).tmps[t]?) → G w → DepsAll Rl x w (D.getD i []) → ∀ K : Act → World → Prop,
      Shut (∀ v w', Kp w w' → relAt Rl i v w' → K (a.put o.dst v) w') → OpGoal P ops Q o a w K) : OpStepK P ops Q a0 D G Rl i o :=
  fun x w hg hd K hK => h _ x w (fun _ => rfl) (fun _ => rfl) hg hd K hK
theorem OpGoal.live {P : Program} {ops : Array Oper} {Q : Exit → Act → World → Prop} {o : Oper} {a : Act} {w : World} {K : Act → World → Prop} (hw : Region.wanted o (yielded ops a.tmps) = true) (h : Oper.wp P o a w K Q) : OpGoal P ops Q o a w K := ⟨by rw [if_pos hw]; exact h⟩
theorem OpGoal.dead {P : Program} {ops : Array Oper} {Q : Exit → Act → World → Prop} {o : Oper} {a : Act} {w : World} {K : Act → World → Prop} (hw : Region.wanted o (yielded ops a.tmps) = false) (h : K (a.put o.dst undef) w) : OpGoal P ops Q o a w K := ⟨by rw [if_neg (by rw [hw]; decide)]; exact h⟩
theorem wanted_free {o : Oper} {y : Nat → Option Bool} (h : o.guard = none) : Region.wanted o y = true := by unfold Region.wanted; rw [h]
theorem yield_at {ops : Array Oper} {tm : Array Value} {j d : Nat} {c : Bool} (h : (ops[j]?).bind (·.dst) = some d) (ht : tm[d]? = some (.bool c)) : yielded ops tm j = some c := by unfold yielded; rw [h]; show (match tm[d]? with | some (.bool b) => some b | _ => none) = _; rw [ht]
theorem wanted_yes {ops : Array Oper} {o : Oper} {tm : Array Value} {j d : Nat} {b : Bool} (hg : o.guard = some (j, b)) (h : (ops[j]?).bind (·.dst) = some d) (ht : tm[d]? = some (.bool b)) : Region.wanted o (yielded ops tm) = true := by
  unfold Region.wanted; rw [hg]; simp [yield_at h ht]
theorem wanted_no {ops : Array Oper} {o : Oper} {tm : Array Value} {j d : Nat} {b c : Bool} (hg : o.guard = some (j, b)) (h : (ops[j]?).bind (·.dst) = some d) (ht : tm[d]? = some (.bool c)) (hc : c ≠ b) : Region.wanted o (yielded ops tm) = false := by
  unfold Region.wanted; rw [hg]; simp [yield_at h ht, hc]
theorem wanted_un {ops : Array Oper} {o : Oper} {tm : Array Value} {j d : Nat} {b : Bool} (hg : o.guard = some (j, b)) (h : (ops[j]?).bind (·.dst) = some d) (ht : tm[d]? = some undef) : Region.wanted o (yielded ops tm) = false := by
  have hy : yielded ops tm j = none := by unfold yielded; rw [h]; show (match tm[d]? with | some (.bool b) => some b | _ => none) = _; rw [ht]; rfl
  unfold Region.wanted; rw [hg]; simp [hy]
end Go.Proofs.Ytgonekmmbeedeaa
