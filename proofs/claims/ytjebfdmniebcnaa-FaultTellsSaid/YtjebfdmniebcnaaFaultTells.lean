/-
  The law FaultTells answers true for every operation and two numbers. No condition.
-/
import Derived.Test.YtjebfdmniebcnaaKfault
namespace Go.Proofs.Ytjebfdmniebcnaa.faultTells
open Go.ChangeShapes Go.WideShapes Go.ChangeAt Go.RowKit
set_option linter.unusedVariables false

theorem own : ownKnob Try.prog.godebug = none := by kernel_rfl


def opK (op b : Int) : Int := if doE op b = 20 then 2 else if doE op b = 21 then 3 else 0
set_option maxHeartbeats 400000 in
theorem operation_any (op b : Int) (w : World) :
    Calls Try.prog 29 #[.int .i64 op, .int .i64 b] w fun e w' => e = .returned (.agg #[.int .i64 (opK op b), .int .i64 0, .int .i64 0, .int .i64 0]) ∧ Kp w w' := by
  have hc : (doE op b = 20) ∨ (doE op b = 21) ∨ (doE op b ≠ 20 ∧ doE op b ≠ 21) := by omega
  rcases hc with h | h | ⟨h, h'⟩
  · have h1 : (doE op b == 20) = true := by simp [h]
    have hk : opK op b = 2 := by simp [opK, h]
    rw [hk]; clear hk h
    go_enter Try.func29, Try.ntmps29
    go_wp2_with (go_at_call 20; refine (do_any _ _ _ _).mono ?_; rintro e w' ⟨rfl, rfl⟩)
    exact bodyPost_ret (v := .agg #[.int .i64 2, .int .i64 0, .int .i64 0, .int .i64 0]) (by simp [results, Try.results29, go_sem]) rfl ⟨rfl, (Kp.refl _).alloc _⟩
  · have h1 : (doE op b == 21) = true := by simp [h]
    have h2 : (doE op b == 20) = false := by simp [h]
    have hk : opK op b = 3 := by simp [opK, h]
    rw [hk]; clear hk h
    go_enter Try.func29, Try.ntmps29
    go_wp2_with (go_at_call 20; refine (do_any _ _ _ _).mono ?_; rintro e w' ⟨rfl, rfl⟩)
    exact bodyPost_ret (v := .agg #[.int .i64 3, .int .i64 0, .int .i64 0, .int .i64 0]) (by simp [results, Try.results29, go_sem]) rfl ⟨rfl, (Kp.refl _).alloc _⟩
  · have h1 : (doE op b == 21) = false := by simp [h']
    have h2 : (doE op b == 20) = false := by simp [h]
    have hk : opK op b = 0 := by simp [opK, h, h']
    rw [hk]; clear hk h h'
    go_enter Try.func29, Try.ntmps29
    go_wp2_with (go_at_call 20; refine (do_any _ _ _ _).mono ?_; rintro e w' ⟨rfl, rfl⟩)
    exact bodyPost_ret (v := .agg #[.int .i64 0, .int .i64 0, .int .i64 0, .int .i64 0]) (by simp [results, Try.results29, go_sem]) rfl ⟨rfl, (Kp.refl _).alloc _⟩
set_option maxHeartbeats 1000000 in
theorem walk (a0 : Int) (a1 : Int) (a2 : Int) (w0 : (Lit.int .i64 a0).wf = true) (w1 : (Lit.int .i64 a1).wf = true) (w2 : (Lit.int .i64 a2).wf = true) (w : World) :
    Calls Try.prog 13 #[.int .i64 a0, .int .i64 a1, .int .i64 a2] w fun e w' => e = .returned (.bool true) ∧ Kp w w' := by
  clear w0 w1 w2
  have f1 : ((doE a0 a2 == 20) == (opK a0 a2 == 2)) = true := by unfold opK; split <;> (try split) <;> simp_all
  have f2 : ((doE a0 a2 == 21) == (opK a0 a2 == 3)) = true := by unfold opK; split <;> (try split) <;> simp_all
  go_enter Try.func13, Try.ntmps13
  go_wp2_with (first | (go_at_call 24; refine (told_any _).mono ?_; rintro e w1 ⟨rfl, hk1⟩; obtain ⟨hc1, hf1⟩ := hk1.cells) | (go_at_call 20; refine (do_any _ _ _ _).mono ?_; rintro e w' ⟨rfl, rfl⟩) | (go_at_call 29; refine (operation_any _ _ _).mono ?_; rintro e w2 ⟨rfl, hk2⟩; obtain ⟨hc2, hf2⟩ := hk2.cells))
  go_ret
  exact ⟨rfl, by repeat (first | exact Kp.refl _ | refine Kp.trans ?_ (by assumption) | refine Kp.alloc ?_ _ | refine Kp.drew ?_)⟩

/-! ### The row's step (the guide's frame, written by program) -/
set_option maxRecDepth 100000 in
theorem lifted (os : Os) (started : os.Started) (H : Type) (enc : TypeId × Value → H) :
    ReturnsInHanded {} Try.checked os 13 .any (Rows.faultTellsSpec.pre6 enc Try.prog Try.f13 Rows.faultTellsRow.domain false) (Rows.faultTellsSpec.post enc Try.prog Try.f13 false true false false) := by
  refine returnsInHanded_of_change (C := Try.checked) own started (by kernel_rfl) Try.func13
    (ChangeSpec.witness6 (enc := enc) (C := Try.checked) false ⟨#[], #[.int .i64 0, .int .i64 0, .int .i64 0], []⟩ 8 (by kernel_rfl) (by kernel_rfl) (by kernel_rfl) (by kernel_rfl)) ?_
  intro W base args ds gs before hval0 hW hcnd _
  have hval : ∀ (j : Nat) t v, Try.f13.params[j]? = some t → args[j]? = some v → Value.okWide Try.prog W .any base t v := hval0
  have hW' := hW
  obtain ⟨p, q, hA0, hV, rfl, hfz, hnd⟩ := hW
  have hA : DataW.TrodAll enc Try.prog W 0 (fun _ => true) true Try.f13.params.toList args.toList ds p := hA0
  rw [Try.params13] at hA hval
  obtain ⟨v0, vs0, d0, ds0, p0, q0, hargs, rfl, rfl, h0, r0⟩ := trodAll_cons hA
  obtain ⟨v1, vs1, d1, ds1, p1, q1, rfl, rfl, rfl, h1, r1⟩ := trodAll_cons r0
  obtain ⟨v2, vs2, d2, ds2, p2, q2, rfl, rfl, rfl, h2, r2⟩ := trodAll_cons r1
  obtain ⟨rfl, rfl, rfl⟩ := trodAll_nil r2
  obtain rfl : args = #[v0, v1, v2] := by cases args; simp_all
  obtain ⟨rfl, rfl⟩ := trodVars_none hV
  obtain ⟨a0, rfl, rfl, rfl, w0⟩ := open_int Try.underlying3 (hval 0 3 v0 rfl rfl) h0
  obtain ⟨a1, rfl, rfl, rfl, w1⟩ := open_int Try.underlying3 (hval 1 3 v1 rfl rfl) h1
  obtain ⟨a2, rfl, rfl, rfl, w2⟩ := open_int Try.underlying3 (hval 2 3 v2 rfl rfl) h2
  clear hA0 hval0
  simp only [List.append_nil] at hW'
  refine (walk a0 a1 a2 w0 w1 w2 W).mono fun e W' ⟨he, bel⟩ => ?_
  subst he
  exact ⟨_, rfl, _, _, _, [], _, [], hW', trodAll_mk1 (shut_bool Try.underlying4 _), (trodAll_cons_mk (shut_int Try.underlying3 w0) (trodAll_cons_mk (shut_int Try.underlying3 w1) (trodAll_cons_mk (shut_int Try.underlying3 w2) trodAll_mk0))), rfl, Below.frame bel _, fun h => by cases h⟩

theorem over : Rows.faultTellsRow.holds Try.pinned (OpenSpec.ofChange Rows.faultTellsSpec) :=
  OpenClaim.holds_of_wide 13 Try.f13 rfl rfl rfl rfl rfl rfl rfl ⟨rfl, rfl, rfl, rfl, rfl⟩ rfl rfl rfl rfl rfl (by kernel_rfl) Try.func13 (by kernel_rfl)
    (of_decide_eq_true (by kernel_rfl)) (by unfold Func.isWrapper; rw [if_neg (of_decide_eq_false (by kernel_rfl))]; exact ⟨rfl, rfl⟩)
    (fun os started H enc _ => lifted os started H enc)

/-- THE STATEMENT. -/
theorem proved : Rows.FaultTellsSaid := over
#print axioms proved

end Go.Proofs.Ytjebfdmniebcnaa.faultTells
