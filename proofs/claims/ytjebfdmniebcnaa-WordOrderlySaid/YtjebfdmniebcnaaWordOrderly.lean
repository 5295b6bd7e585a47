/-
  The law WordOrderly answers true for every three numbers. No condition.
-/
import Derived.Test.YtjebfdmniebcnaaKword
namespace Go.Proofs.Ytjebfdmniebcnaa.wordOrderly
open Go.ChangeShapes Go.WideShapes Go.ChangeAt Go.RowKit
set_option linter.unusedVariables false

theorem own : ownKnob Try.prog.godebug = none := by kernel_rfl


theorem kh_lt (a b : Int) : khV 13 a b = decide (a < b) := by
  unfold khV hlV ordI; simp; split <;> (try split) <;> simp <;> omega
theorem kh_le (a b : Int) : khV 14 a b = decide (a ≤ b) := by
  unfold khV hlV ordI; simp; split <;> (try split) <;> simp <;> omega
theorem kh_gt (a b : Int) : khV 15 a b = decide (b < a) := by
  unfold khV hlV ordI; simp; split <;> (try split) <;> simp <;> omega
theorem kh_ge (a b : Int) : khV 16 a b = decide (b ≤ a) := by
  unfold khV hlV ordI; simp; split <;> (try split) <;> simp <;> omega
theorem kh_eq (a b : Int) : khV 11 a b = decide (a = b) := by
  unfold khV hlV ordI; simp; rw [Bool.eq_iff_iff]; split <;> (try split) <;> simp <;> omega
theorem kh_ne (a b : Int) : khV 12 a b = decide (a ≠ b) := by
  unfold khV hlV ordI; simp; rw [Bool.eq_iff_iff]; split <;> (try split) <;> simp <;> omega
set_option maxHeartbeats 1000000 in
theorem walk1 (a0 a1 a2 : Int) (w : World) (h : a0 < a1) (k : a1 < a2) :
    Calls Try.prog 4 #[.int .i64 a0, .int .i64 a1, .int .i64 a2] w fun e w' => e = .returned (.bool true) ∧ Kp w w' := by
  have g1 : khV 13 a0 a1 = true := by simp [kh_lt]; omega
  have g2 : khV 15 a0 a1 = false := by simp [kh_gt]; omega
  have g3 : khV 11 a0 a1 = false := by simp [kh_eq]; omega
  have g4 : khV 15 a1 a0 = true := by simp [kh_gt]; omega
  have g5 : khV 12 a0 a1 = true := by simp [kh_ne]; omega
  have g6 : khV 14 a0 a1 = true := by simp [kh_le]; omega
  have g7 : khV 16 a0 a1 = false := by simp [kh_ge]; omega
  have g8 : (a0 == a1) = false := by simp; omega
  have g9 : khV 13 a1 a2 = true := by simp [kh_lt]; omega
  have g10 : khV 13 a0 a2 = true := by simp [kh_lt]; omega
  clear h k
  go_enter Try.func4, Try.ntmps4
  go_wp2_with (go_at_call 17; refine (kholds_any _ _ _ _).mono ?_; rintro e w' ⟨rfl, rfl⟩)
  refine wp_loop_rounds 4 ?_
  repeat any_goals (rw [rounds_succ]; go_wp2_with (go_at_call 17; refine (kholds_any _ _ _ _).mono ?_; rintro e w' ⟨rfl, rfl⟩))
  go_ret
  exact ⟨rfl, (Kp.refl _).alloc _⟩
set_option maxHeartbeats 1000000 in
theorem walk2 (a0 a1 a2 : Int) (w : World) (h : a0 < a1) (k : ¬ a1 < a2) :
    Calls Try.prog 4 #[.int .i64 a0, .int .i64 a1, .int .i64 a2] w fun e w' => e = .returned (.bool true) ∧ Kp w w' := by
  have g1 : khV 13 a0 a1 = true := by simp [kh_lt]; omega
  have g2 : khV 15 a0 a1 = false := by simp [kh_gt]; omega
  have g3 : khV 11 a0 a1 = false := by simp [kh_eq]; omega
  have g4 : khV 15 a1 a0 = true := by simp [kh_gt]; omega
  have g5 : khV 12 a0 a1 = true := by simp [kh_ne]; omega
  have g6 : khV 14 a0 a1 = true := by simp [kh_le]; omega
  have g7 : khV 16 a0 a1 = false := by simp [kh_ge]; omega
  have g8 : (a0 == a1) = false := by simp; omega
  have g9 : khV 13 a1 a2 = false := by simp [kh_lt]; omega
  clear h k
  go_enter Try.func4, Try.ntmps4
  go_wp2_with (go_at_call 17; refine (kholds_any _ _ _ _).mono ?_; rintro e w' ⟨rfl, rfl⟩)
  refine wp_loop_rounds 4 ?_
  repeat any_goals (rw [rounds_succ]; go_wp2_with (go_at_call 17; refine (kholds_any _ _ _ _).mono ?_; rintro e w' ⟨rfl, rfl⟩))
  go_ret
  exact ⟨rfl, (Kp.refl _).alloc _⟩
set_option maxHeartbeats 1000000 in
theorem walk3 (a0 a1 a2 : Int) (w : World) (h : a1 < a0) :
    Calls Try.prog 4 #[.int .i64 a0, .int .i64 a1, .int .i64 a2] w fun e w' => e = .returned (.bool true) ∧ Kp w w' := by
  have g1 : khV 13 a0 a1 = false := by simp [kh_lt]; omega
  have g2 : khV 15 a0 a1 = true := by simp [kh_gt]; omega
  have g3 : khV 11 a0 a1 = false := by simp [kh_eq]; omega
  have g4 : khV 15 a1 a0 = false := by simp [kh_gt]; omega
  have g5 : khV 12 a0 a1 = true := by simp [kh_ne]; omega
  have g6 : khV 14 a0 a1 = false := by simp [kh_le]; omega
  have g7 : khV 16 a0 a1 = true := by simp [kh_ge]; omega
  have g8 : (a0 == a1) = false := by simp; omega
  clear h
  go_enter Try.func4, Try.ntmps4
  go_wp2_with (go_at_call 17; refine (kholds_any _ _ _ _).mono ?_; rintro e w' ⟨rfl, rfl⟩)
  refine wp_loop_rounds 4 ?_
  repeat any_goals (rw [rounds_succ]; go_wp2_with (go_at_call 17; refine (kholds_any _ _ _ _).mono ?_; rintro e w' ⟨rfl, rfl⟩))
  go_ret
  exact ⟨rfl, (Kp.refl _).alloc _⟩
set_option maxHeartbeats 1000000 in
theorem walk4 (a0 a1 a2 : Int) (w : World) (h : a0 = a1) :
    Calls Try.prog 4 #[.int .i64 a0, .int .i64 a1, .int .i64 a2] w fun e w' => e = .returned (.bool true) ∧ Kp w w' := by
  have g1 : khV 13 a0 a1 = false := by simp [kh_lt]; omega
  have g2 : khV 15 a0 a1 = false := by simp [kh_gt]; omega
  have g3 : khV 11 a0 a1 = true := by simp [kh_eq]; omega
  have g4 : khV 15 a1 a0 = false := by simp [kh_gt]; omega
  have g5 : khV 12 a0 a1 = false := by simp [kh_ne]; omega
  have g6 : khV 14 a0 a1 = true := by simp [kh_le]; omega
  have g7 : khV 16 a0 a1 = true := by simp [kh_ge]; omega
  have g8 : (a0 == a1) = true := by simp; omega
  clear h
  go_enter Try.func4, Try.ntmps4
  go_wp2_with (go_at_call 17; refine (kholds_any _ _ _ _).mono ?_; rintro e w' ⟨rfl, rfl⟩)
  refine wp_loop_rounds 4 ?_
  repeat any_goals (rw [rounds_succ]; go_wp2_with (go_at_call 17; refine (kholds_any _ _ _ _).mono ?_; rintro e w' ⟨rfl, rfl⟩))
  go_ret
  exact ⟨rfl, (Kp.refl _).alloc _⟩
theorem walk (a0 : Int) (a1 : Int) (a2 : Int) (w0 : (Lit.int .i64 a0).wf = true) (w1 : (Lit.int .i64 a1).wf = true) (w2 : (Lit.int .i64 a2).wf = true) (w : World) :
    Calls Try.prog 4 #[.int .i64 a0, .int .i64 a1, .int .i64 a2] w fun e w' => e = .returned (.bool true) ∧ Kp w w' := by
  have hc : a0 < a1 ∨ a1 < a0 ∨ a0 = a1 := by omega
  rcases hc with h | h | h
  · by_cases k : a1 < a2
    · exact walk1 a0 a1 a2 w h k
    · exact walk2 a0 a1 a2 w h k
  · exact walk3 a0 a1 a2 w h
  · exact walk4 a0 a1 a2 w h

/-! ### The row's step (the guide's frame, written by program) -/
set_option maxRecDepth 100000 in
theorem lifted (os : Os) (started : os.Started) (H : Type) (enc : TypeId × Value → H) :
    ReturnsInHanded {} Try.checked os 4 .any (Rows.wordOrderlySpec.pre6 enc Try.prog Try.f4 Rows.wordOrderlyRow.domain false) (Rows.wordOrderlySpec.post enc Try.prog Try.f4 false true false false) := by
  refine returnsInHanded_of_change (C := Try.checked) own started (by kernel_rfl) Try.func4
    (ChangeSpec.witness6 (enc := enc) (C := Try.checked) false ⟨#[], #[.int .i64 0, .int .i64 0, .int .i64 0], []⟩ 8 (by kernel_rfl) (by kernel_rfl) (by kernel_rfl) (by kernel_rfl)) ?_
  intro W base args ds gs before hval0 hW hcnd _
  have hval : ∀ (j : Nat) t v, Try.f4.params[j]? = some t → args[j]? = some v → Value.okWide Try.prog W .any base t v := hval0
  have hW' := hW
  obtain ⟨p, q, hA0, hV, rfl, hfz, hnd⟩ := hW
  have hA : DataW.TrodAll enc Try.prog W 0 (fun _ => true) true Try.f4.params.toList args.toList ds p := hA0
  rw [Try.params4] at hA hval
  obtain ⟨v0, vs0, d0, ds0, p0, q0, hargs, rfl, rfl, h0, r0⟩ := trodAll_cons hA
  obtain ⟨v1, vs1, d1, ds1, p1, q1, rfl, rfl, rfl, h1, r1⟩ := trodAll_cons r0
  obtain ⟨v2, vs2, d2, ds2, p2, q2, rfl, rfl, rfl, h2, r2⟩ := trodAll_cons r1
  obtain ⟨rfl, rfl, rfl⟩ := trodAll_nil r2
  obtain rfl : args = #[v0, v1, v2] := by cases args; simp_all
  obtain ⟨rfl, rfl⟩ := trodVars_none hV
  obtain ⟨a0, rfl, rfl, rfl, w0⟩ := open_int Try.underlying3 (hval 0 3 v0 rfl rfl) h0
  obtain ⟨a1, rfl, rfl, rfl, w1⟩ := open_int Try.underlying3 (hval 1 3 v1 rfl rfl) h1
  obtain ⟨a2, rfl, rfl, rfl, w2⟩ := open_int Try.underlying3 (hval 2 3 v2 rfl rfl) h2
  clear hA0 hval0
  simp only [List.append_nil] at hW'
  refine (walk a0 a1 a2 w0 w1 w2 W).mono fun e W' ⟨he, bel⟩ => ?_
  subst he
  exact ⟨_, rfl, _, _, _, [], _, [], hW', trodAll_mk1 (shut_bool Try.underlying4 _), (trodAll_cons_mk (shut_int Try.underlying3 w0) (trodAll_cons_mk (shut_int Try.underlying3 w1) (trodAll_cons_mk (shut_int Try.underlying3 w2) trodAll_mk0))), rfl, Below.frame bel _, fun h => by cases h⟩

theorem over : Rows.wordOrderlyRow.holds Try.pinned (OpenSpec.ofChange Rows.wordOrderlySpec) :=
  OpenClaim.holds_of_wide 4 Try.f4 rfl rfl rfl rfl rfl rfl rfl ⟨rfl, rfl, rfl, rfl, rfl⟩ rfl rfl rfl rfl rfl (by kernel_rfl) Try.func4 (by kernel_rfl)
    (of_decide_eq_true (by kernel_rfl)) (by unfold Func.isWrapper; rw [if_neg (of_decide_eq_false (by kernel_rfl))]; exact ⟨rfl, rfl⟩)
    (fun os started H enc _ => lifted os started H enc)

/-- THE STATEMENT. -/
theorem proved : Rows.WordOrderlySaid := over
#print axioms proved

end Go.Proofs.Ytjebfdmniebcnaa.wordOrderly
