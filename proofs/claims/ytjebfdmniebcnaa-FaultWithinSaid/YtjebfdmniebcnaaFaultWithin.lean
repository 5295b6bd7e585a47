/-
  The law FaultWithin answers true for every three numbers. No condition.
-/
import Derived.Test.YtjebfdmniebcnaaKfault
namespace Go.Proofs.Ytjebfdmniebcnaa.faultWithin
open Go.ChangeShapes Go.WideShapes Go.ChangeAt Go.RowKit
set_option linter.unusedVariables false

theorem own : ownKnob Try.prog.godebug = none := by kernel_rfl


set_option maxHeartbeats 4000000 in
theorem walk (a0 : Int) (a1 : Int) (a2 : Int) (w0 : (Lit.int .i64 a0).wf = true) (w1 : (Lit.int .i64 a1).wf = true) (w2 : (Lit.int .i64 a2).wf = true) (w : World) :
    Calls Try.prog 12 #[.int .i64 a0, .int .i64 a1, .int .i64 a2] w fun e w' => e = .returned (.bool true) ∧ Kp w w' := by
  clear w0 w1 w2
  by_cases h1 : 0 ≤ a0 <;> by_cases h2 : a0 < a2 <;> by_cases h3 : a0 ≤ a1 <;> by_cases h4 : a1 ≤ a2 <;> by_cases h5 : a0 ≤ a2 <;> try omega
  all_goals
    go_enter Try.func12, Try.ntmps12
    go_wp2_with (first | (go_at_call 24; refine (told_any _).mono ?_; rintro e w1 ⟨rfl, hk1⟩) | (go_at_call 27; refine (index_in _ _ _ (by omega) (by omega)).mono ?_; rintro e w2 ⟨rfl, hk2⟩) | (go_at_call 27; refine (index_out _ _ _ (by omega)).mono ?_; rintro e w2 ⟨rfl, hk2⟩) | (go_at_call 26; refine (bounds_in _ _ _ _ (by omega) (by omega) (by omega)).mono ?_; rintro e w3 ⟨rfl, hk3⟩) | (go_at_call 26; refine (bounds_out _ _ _ _ (by omega)).mono ?_; rintro e w3 ⟨rfl, hk3⟩) | (go_at_call 28; refine (long_in _ _ _ (by omega)).mono ?_; rintro e w5 ⟨rfl, hk5⟩) | (go_at_call 28; refine (long_out _ _ _ (by omega)).mono ?_; rintro e w5 ⟨rfl, hk5⟩) | (go_at_call 25; refine (none_yes _).mono ?_; rintro e w4 ⟨rfl, hk4⟩) | (go_at_call 25; refine (none_no _ _ _ _ _ (by decide)).mono ?_; rintro e w4 ⟨rfl, hk4⟩))
    go_ret
    exact ⟨by first | rfl | (simp; done) | (simp; omega), by repeat (first | exact Kp.refl _ | refine Kp.trans ?_ (by assumption))⟩

/-! ### The row's step (the guide's frame, written by program) -/
set_option maxRecDepth 100000 in
theorem lifted (os : Os) (started : os.Started) (H : Type) (enc : TypeId × Value → H) :
    ReturnsInHanded {} Try.checked os 12 .any (Rows.faultWithinSpec.pre6 enc Try.prog Try.f12 Rows.faultWithinRow.domain false) (Rows.faultWithinSpec.post enc Try.prog Try.f12 false true false false) := by
  refine returnsInHanded_of_change (C := Try.checked) own started (by kernel_rfl) Try.func12
    (ChangeSpec.witness6 (enc := enc) (C := Try.checked) false ⟨#[], #[.int .i64 0, .int .i64 0, .int .i64 0], []⟩ 8 (by kernel_rfl) (by kernel_rfl) (by kernel_rfl) (by kernel_rfl)) ?_
  intro W base args ds gs before hval0 hW hcnd _
  have hval : ∀ (j : Nat) t v, Try.f12.params[j]? = some t → args[j]? = some v → Value.okWide Try.prog W .any base t v := hval0
  have hW' := hW
  obtain ⟨p, q, hA0, hV, rfl, hfz, hnd⟩ := hW
  have hA : DataW.TrodAll enc Try.prog W 0 (fun _ => true) true Try.f12.params.toList args.toList ds p := hA0
  rw [Try.params12] at hA hval
  obtain ⟨v0, vs0, d0, ds0, p0, q0, hargs, rfl, rfl, h0, r0⟩ := trodAll_cons hA
  obtain ⟨v1, vs1, d1, ds1, p1, q1, rfl, rfl, rfl, h1, r1⟩ := trodAll_cons r0
  obtain ⟨v2, vs2, d2, ds2, p2, q2, rfl, rfl, rfl, h2, r2⟩ := trodAll_cons r1
  obtain ⟨rfl, rfl, rfl⟩ := trodAll_nil r2
  obtain rfl : args = #[v0, v1, v2] := by cases args; simp_all
  obtain ⟨rfl, rfl⟩ := trodVars_none hV
  obtain ⟨a0, rfl, rfl, rfl, w0⟩ := open_int Try.underlying3 (hval 0 3 v0 rfl rfl) h0
  obtain ⟨a1, rfl, rfl, rfl, w1⟩ := open_int Try.underlying3 (hval 1 3 v1 rfl rfl) h1
  obtain ⟨a2, rfl, rfl, rfl, w2⟩ := open_int Try.underlying3 (hval 2 3 v2 rfl rfl) h2
  clear hA0 hval0
  simp only [List.append_nil] at hW'
  refine (walk a0 a1 a2 w0 w1 w2 W).mono fun e W' ⟨he, bel⟩ => ?_
  subst he
  exact ⟨_, rfl, _, _, _, [], _, [], hW', trodAll_mk1 (shut_bool Try.underlying4 _), (trodAll_cons_mk (shut_int Try.underlying3 w0) (trodAll_cons_mk (shut_int Try.underlying3 w1) (trodAll_cons_mk (shut_int Try.underlying3 w2) trodAll_mk0))), rfl, Below.frame bel _, fun h => by cases h⟩

theorem over : Rows.faultWithinRow.holds Try.pinned (OpenSpec.ofChange Rows.faultWithinSpec) :=
  OpenClaim.holds_of_wide 12 Try.f12 rfl rfl rfl rfl rfl rfl rfl ⟨rfl, rfl, rfl, rfl, rfl⟩ rfl rfl rfl rfl rfl (by kernel_rfl) Try.func12 (by kernel_rfl)
    (of_decide_eq_true (by kernel_rfl)) (by unfold Func.isWrapper; rw [if_neg (of_decide_eq_false (by kernel_rfl))]; exact ⟨rfl, rfl⟩)
    (fun os started H enc _ => lifted os started H enc)

/-- THE STATEMENT. -/
theorem proved : Rows.FaultWithinSaid := over
#print axioms proved

end Go.Proofs.Ytjebfdmniebcnaa.faultWithin
