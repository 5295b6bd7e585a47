/-
  The law FaultPieces answers true for every four numbers. No condition.
-/
import Derived.Test.YtjebfdmniebcnaaKfault
namespace Go.Proofs.Ytjebfdmniebcnaa.faultPieces
open Go.ChangeShapes Go.WideShapes Go.ChangeAt Go.RowKit
set_option linter.unusedVariables false

theorem own : ownKnob Try.prog.godebug = none := by kernel_rfl


set_option maxHeartbeats 1000000 in
theorem walk (a0 : Int) (a1 : Int) (a2 : Int) (a3 : Int) (w0 : (Lit.int .i64 a0).wf = true) (w1 : (Lit.int .i64 a1).wf = true) (w2 : (Lit.int .i64 a2).wf = true) (w3 : (Lit.int .i64 a3).wf = true) (w : World) :
    Calls Try.prog 11 #[.int .i64 a0, .int .i64 a1, .int .i64 a2, .int .i64 a3] w fun e w' => e = .returned (.bool true) ∧ Kp w w' := by
  have b0 := bounds_i64 w0
  have b1 := bounds_i64 w1
  have b2 := bounds_i64 w2
  have b3 := bounds_i64 w3
  clear w0 w1 w2 w3
  by_cases h : 0 ≤ a0 ∧ a0 ≤ a1 ∧ a1 ≤ a2
  · obtain ⟨h1, h2, h3⟩ := h
    by_cases g : 0 ≤ a3 ∧ a3 < a1 - a0
    · obtain ⟨g1, g2⟩ := g
      go_enter Try.func11, Try.ntmps11
      go_wp2_with (first | (go_at_call 24; refine (told_any _).mono ?_; rintro e w1 ⟨rfl, hk1⟩) | (go_at_call 27; refine (index_in _ _ _ (by omega) (by omega)).mono ?_; rintro e w2 ⟨rfl, hk2⟩) | (go_at_call 26; refine (bounds_in _ _ _ _ (by omega) (by omega) (by omega)).mono ?_; rintro e w3 ⟨rfl, hk3⟩) | (go_at_call 25; refine (none_yes _).mono ?_; rintro e w4 ⟨rfl, hk4⟩))
      go_ret
      exact ⟨rfl, by repeat (first | exact Kp.refl _ | refine Kp.trans ?_ (by assumption))⟩
    · go_enter Try.func11, Try.ntmps11
      go_wp2_with (first | (go_at_call 24; refine (told_any _).mono ?_; rintro e w1 ⟨rfl, hk1⟩) | (go_at_call 27; refine (index_out _ _ _ (by omega)).mono ?_; rintro e w2 ⟨rfl, hk2⟩) | (go_at_call 26; refine (bounds_in _ _ _ _ (by omega) (by omega) (by omega)).mono ?_; rintro e w3 ⟨rfl, hk3⟩) | (go_at_call 25; refine (none_yes _).mono ?_; rintro e w4 ⟨rfl, hk4⟩) | (go_at_call 25; refine (none_no _ _ _ _ _ (by decide)).mono ?_; rintro e w4 ⟨rfl, hk4⟩))
      go_ret
      exact ⟨rfl, by repeat (first | exact Kp.refl _ | refine Kp.trans ?_ (by assumption))⟩
  · go_enter Try.func11, Try.ntmps11
    go_wp2_with (first | (go_at_call 24; refine (told_any _).mono ?_; rintro e w1 ⟨rfl, hk1⟩) | (go_at_call 26; refine (bounds_out _ _ _ _ (by omega)).mono ?_; rintro e w3 ⟨rfl, hk3⟩) | (go_at_call 25; refine (none_no _ _ _ _ _ (by decide)).mono ?_; rintro e w4 ⟨rfl, hk4⟩))
    go_ret
    exact ⟨rfl, by repeat (first | exact Kp.refl _ | refine Kp.trans ?_ (by assumption))⟩

/-! ### The row's step (the guide's frame, written by program) -/
set_option maxRecDepth 100000 in
theorem lifted (os : Os) (started : os.Started) (H : Type) (enc : TypeId × Value → H) :
    ReturnsInHanded {} Try.checked os 11 .any (Rows.faultPiecesSpec.pre6 enc Try.prog Try.f11 Rows.faultPiecesRow.domain false) (Rows.faultPiecesSpec.post enc Try.prog Try.f11 false true false false) := by
  refine returnsInHanded_of_change (C := Try.checked) own started (by kernel_rfl) Try.func11
    (ChangeSpec.witness6 (enc := enc) (C := Try.checked) false ⟨#[], #[.int .i64 0, .int .i64 0, .int .i64 0, .int .i64 0], []⟩ 8 (by kernel_rfl) (by kernel_rfl) (by kernel_rfl) (by kernel_rfl)) ?_
  intro W base args ds gs before hval0 hW hcnd _
  have hval : ∀ (j : Nat) t v, Try.f11.params[j]? = some t → args[j]? = some v → Value.okWide Try.prog W .any base t v := hval0
  have hW' := hW
  obtain ⟨p, q, hA0, hV, rfl, hfz, hnd⟩ := hW
  have hA : DataW.TrodAll enc Try.prog W 0 (fun _ => true) true Try.f11.params.toList args.toList ds p := hA0
  rw [Try.params11] at hA hval
  obtain ⟨v0, vs0, d0, ds0, p0, q0, hargs, rfl, rfl, h0, r0⟩ := trodAll_cons hA
  obtain ⟨v1, vs1, d1, ds1, p1, q1, rfl, rfl, rfl, h1, r1⟩ := trodAll_cons r0
  obtain ⟨v2, vs2, d2, ds2, p2, q2, rfl, rfl, rfl, h2, r2⟩ := trodAll_cons r1
  obtain ⟨v3, vs3, d3, ds3, p3, q3, rfl, rfl, rfl, h3, r3⟩ := trodAll_cons r2
  obtain ⟨rfl, rfl, rfl⟩ := trodAll_nil r3
  obtain rfl : args = #[v0, v1, v2, v3] := by cases args; simp_all
  obtain ⟨rfl, rfl⟩ := trodVars_none hV
  obtain ⟨a0, rfl, rfl, rfl, w0⟩ := open_int Try.underlying3 (hval 0 3 v0 rfl rfl) h0
  obtain ⟨a1, rfl, rfl, rfl, w1⟩ := open_int Try.underlying3 (hval 1 3 v1 rfl rfl) h1
  obtain ⟨a2, rfl, rfl, rfl, w2⟩ := open_int Try.underlying3 (hval 2 3 v2 rfl rfl) h2
  obtain ⟨a3, rfl, rfl, rfl, w3⟩ := open_int Try.underlying3 (hval 3 3 v3 rfl rfl) h3
  clear hA0 hval0
  simp only [List.append_nil] at hW'
  refine (walk a0 a1 a2 a3 w0 w1 w2 w3 W).mono fun e W' ⟨he, bel⟩ => ?_
  subst he
  exact ⟨_, rfl, _, _, _, [], _, [], hW', trodAll_mk1 (shut_bool Try.underlying4 _), (trodAll_cons_mk (shut_int Try.underlying3 w0) (trodAll_cons_mk (shut_int Try.underlying3 w1) (trodAll_cons_mk (shut_int Try.underlying3 w2) (trodAll_cons_mk (shut_int Try.underlying3 w3) trodAll_mk0)))), rfl, Below.frame bel _, fun h => by cases h⟩

theorem over : Rows.faultPiecesRow.holds Try.pinned (OpenSpec.ofChange Rows.faultPiecesSpec) :=
  OpenClaim.holds_of_wide 11 Try.f11 rfl rfl rfl rfl rfl rfl rfl ⟨rfl, rfl, rfl, rfl, rfl⟩ rfl rfl rfl rfl rfl (by kernel_rfl) Try.func11 (by kernel_rfl)
    (of_decide_eq_true (by kernel_rfl)) (by unfold Func.isWrapper; rw [if_neg (of_decide_eq_false (by kernel_rfl))]; exact ⟨rfl, rfl⟩)
    (fun os started H enc _ => lifted os started H enc)

/-- THE STATEMENT. -/
theorem proved : Rows.FaultPiecesSaid := over
#print axioms proved

end Go.Proofs.Ytjebfdmniebcnaa.faultPieces
