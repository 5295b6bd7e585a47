/-
  The law WordDivides answers true for every two numbers. No condition.
-/
import Derived.Test.YtjebfdmniebcnaaKword
namespace Go.Proofs.Ytjebfdmniebcnaa.wordDivides
open Go.ChangeShapes Go.WideShapes Go.ChangeAt Go.RowKit
set_option linter.unusedVariables false

theorem own : ownKnob Try.prog.godebug = none := by kernel_rfl


theorem back (a b : Int) (w0 : (Lit.int .i64 a).wf = true) (hb : b ≠ 0) : doV 1 (doV 3 (doV 4 a b) b) (doV 5 a b) = a := by
  have h := (tmod_facts a b hb).1
  simp only [doV, hb]; simp [w64_mul, w64_add]
  rw [Int.mul_comm, h, w64_id a w0]
set_option maxHeartbeats 1000000 in
theorem walk (a0 : Int) (a1 : Int) (w0 : (Lit.int .i64 a0).wf = true) (w1 : (Lit.int .i64 a1).wf = true) (w : World) :
    Calls Try.prog 6 #[.int .i64 a0, .int .i64 a1] w fun e w' => e = .returned (.bool true) ∧ Kp w w' := by
  have ba := bounds_i64 w0
  have bb := bounds_i64 w1
  by_cases hz : a1 = 0
  · subst hz
    have e1 : doE 4 0 = 20 := by simp [doE]
    have e2 : doE 5 0 = 20 := by simp [doE]
    have e3 : doV 4 a0 0 = 0 := by simp [doV]
    have e4 : doV 5 a0 0 = 0 := by simp [doV]
    clear w0 w1
    go_enter Try.func6, Try.ntmps6
    go_wp2_with (first | (go_at_call 20; refine (do_any _ _ _ _).mono ?_; rintro e w' ⟨rfl, rfl⟩) | (go_at_call 19; refine (awake_any _).mono ?_; rintro e w' ⟨rfl, rfl⟩))
    go_ret
    exact ⟨rfl, Kp.refl _⟩
  · have e1 : doE 4 a1 = 0 := by simp [doE, hz]
    have e2 : doE 5 a1 = 0 := by simp [doE, hz]
    have e3 : (doV 1 (doV 3 (doV 4 a0 a1) a1) (doV 5 a0 a1) == a0) = true := by simp [back a0 a1 w0 hz]
    have e3' : (doV 1 (doV 3 (doV 4 a0 a1) a1) (doV 5 a0 a1) != a0) = false := by simp [back a0 a1 w0 hz]
    have ez : (a1 == 0) = false := by simp [hz]
    have hr : doV 5 a0 a1 = a0.tmod a1 := by simp [doV, hz]
    have ht := (tmod_facts a0 a1 hz).2
    rw [← hr] at ht
    clear w0 w1 hz hr
    have hcase : (doV 5 a0 a1 = 0) ∨ (0 < doV 5 a0 a1 ∧ 0 < a0 ∧ a1 < - doV 5 a0 a1) ∨ (0 < doV 5 a0 a1 ∧ 0 < a0 ∧ ¬ a1 < - doV 5 a0 a1 ∧ doV 5 a0 a1 < a1) ∨ (doV 5 a0 a1 < 0 ∧ a0 < 0 ∧ a1 < doV 5 a0 a1) ∨ (doV 5 a0 a1 < 0 ∧ a0 < 0 ∧ ¬ a1 < doV 5 a0 a1 ∧ -a1 < doV 5 a0 a1) := by omega
    have hrb : doV 5 a0 a1 ≤ 9223372036854775807 ∧ -9223372036854775808 ≤ doV 5 a0 a1 := by omega
    clear ht
    rcases hcase with h | ⟨h1, h2, h3⟩ | ⟨h1, h2, h3, h4⟩ | ⟨h1, h2, h3⟩ | ⟨h1, h2, h3, h4⟩
    · have h0 : (doV 5 a0 a1 == 0) = true := by simp [h]
      have h1 : ¬ (0 < doV 5 a0 a1) := by omega
      have h2 : ¬ (doV 5 a0 a1 < 0) := by omega
      clear h
      go_enter Try.func6, Try.ntmps6
      go_wp2_with (first | (go_at_call 20; refine (do_any _ _ _ _).mono ?_; rintro e w' ⟨rfl, rfl⟩) | (go_at_call 18; refine (kdo_any _ _ _ _).mono ?_; rintro e w' ⟨rfl, rfl⟩))
      go_ret
      exact ⟨rfl, Kp.refl _⟩
    all_goals
      have h0 : (doV 5 a0 a1 == 0) = false := by simp; omega
      go_enter Try.func6, Try.ntmps6
      go_wp2_with (first | (go_at_call 20; refine (do_any _ _ _ _).mono ?_; rintro e w' ⟨rfl, rfl⟩) | (go_at_call 18; refine (kdo_any _ _ _ _).mono ?_; rintro e w' ⟨rfl, rfl⟩))
      go_ret
      exact ⟨rfl, Kp.refl _⟩

/-! ### The row's step (the guide's frame, written by program) -/
set_option maxRecDepth 100000 in
theorem lifted (os : Os) (started : os.Started) (H : Type) (enc : TypeId × Value → H) :
    ReturnsInHanded {} Try.checked os 6 .any (Rows.wordDividesSpec.pre6 enc Try.prog Try.f6 Rows.wordDividesRow.domain false) (Rows.wordDividesSpec.post enc Try.prog Try.f6 false true false false) := by
  refine returnsInHanded_of_change (C := Try.checked) own started (by kernel_rfl) Try.func6
    (ChangeSpec.witness6 (enc := enc) (C := Try.checked) false ⟨#[], #[.int .i64 0, .int .i64 0], []⟩ 8 (by kernel_rfl) (by kernel_rfl) (by kernel_rfl) (by kernel_rfl)) ?_
  intro W base args ds gs before hval0 hW hcnd _
  have hval : ∀ (j : Nat) t v, Try.f6.params[j]? = some t → args[j]? = some v → Value.okWide Try.prog W .any base t v := hval0
  have hW' := hW
  obtain ⟨p, q, hA0, hV, rfl, hfz, hnd⟩ := hW
  have hA : DataW.TrodAll enc Try.prog W 0 (fun _ => true) true Try.f6.params.toList args.toList ds p := hA0
  rw [Try.params6] at hA hval
  obtain ⟨v0, vs0, d0, ds0, p0, q0, hargs, rfl, rfl, h0, r0⟩ := trodAll_cons hA
  obtain ⟨v1, vs1, d1, ds1, p1, q1, rfl, rfl, rfl, h1, r1⟩ := trodAll_cons r0
  obtain ⟨rfl, rfl, rfl⟩ := trodAll_nil r1
  obtain rfl : args = #[v0, v1] := by cases args; simp_all
  obtain ⟨rfl, rfl⟩ := trodVars_none hV
  obtain ⟨a0, rfl, rfl, rfl, w0⟩ := open_int Try.underlying3 (hval 0 3 v0 rfl rfl) h0
  obtain ⟨a1, rfl, rfl, rfl, w1⟩ := open_int Try.underlying3 (hval 1 3 v1 rfl rfl) h1
  clear hA0 hval0
  simp only [List.append_nil] at hW'
  refine (walk a0 a1 w0 w1 W).mono fun e W' ⟨he, bel⟩ => ?_
  subst he
  exact ⟨_, rfl, _, _, _, [], _, [], hW', trodAll_mk1 (shut_bool Try.underlying4 _), (trodAll_cons_mk (shut_int Try.underlying3 w0) (trodAll_cons_mk (shut_int Try.underlying3 w1) trodAll_mk0)), rfl, Below.frame bel _, fun h => by cases h⟩

theorem over : Rows.wordDividesRow.holds Try.pinned (OpenSpec.ofChange Rows.wordDividesSpec) :=
  OpenClaim.holds_of_wide 6 Try.f6 rfl rfl rfl rfl rfl rfl rfl ⟨rfl, rfl, rfl, rfl, rfl⟩ rfl rfl rfl rfl rfl (by kernel_rfl) Try.func6 (by kernel_rfl)
    (of_decide_eq_true (by kernel_rfl)) (by unfold Func.isWrapper; rw [if_neg (of_decide_eq_false (by kernel_rfl))]; exact ⟨rfl, rfl⟩)
    (fun os started H enc _ => lifted os started H enc)

/-- THE STATEMENT. -/
theorem proved : Rows.WordDividesSaid := over
#print axioms proved

end Go.Proofs.Ytjebfdmniebcnaa.wordDivides
