/-
  Values that come in, by the bound of an Upto statement, one counted for the value itself. No condition.
-/
import Derived.Test.YtffjfkmnlfndkaaBulk
namespace Go.Proofs.Ytffjfkmnlfndkaa
open Go.RowKit Go.ChangeShapes Go.WideShapes Go.Deep Go.Joins
set_option linter.unusedVariables false

def RdValV (w : World) (v : Value) (m : ValM) : Prop := RdVal w v m ∧ bkVal m + 1 ≤ 1048576
section
variable {H : Type} {enc : TypeId × Value → H} {W : World} {base : Nat} {v : Value} {d : DataW H} {p : List MemPlace}
set_option maxRecDepth 100000 in
theorem open_valueVU (hval : Value.okWide Try.prog W .any base 53 v) (h : DataW.Trod enc Try.prog W 0 (fun _ => true) true 53 v d p) (hz : ∀ n ∈ DataW.weights Try.prog 53 d, n ≤ reachBytes) (hb : Rows.uptoBulk d ≤ 1048576) : ∃ m, RdValV W v m := by
  obtain ⟨m, hm⟩ := open_value hval h hz
  obtain ⟨fuel, hf⟩ := h
  refine ⟨m, hm, ?_⟩
  obtain ⟨lv, rfl, hr⟩ := hm
  have := val_bulk hf ⟨lv, rfl, hr⟩
  omega
end
end Go.Proofs.Ytffjfkmnlfndkaa
