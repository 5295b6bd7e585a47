/-
  The law WordRing answers true for every three numbers. No condition.
-/
import Derived.Test.YtjebfdmniebcnaaKword
namespace Go.Proofs.Ytjebfdmniebcnaa.wordRing
open Go.ChangeShapes Go.WideShapes Go.ChangeAt Go.RowKit
set_option linter.unusedVariables false

theorem own : ownKnob Try.prog.godebug = none := by kernel_rfl


theorem w64_add (a b : Int) : wrap64 (wrap64 a + b) = wrap64 (a + b) := by unfold wrap64; omega
theorem w64_add' (a b : Int) : wrap64 (a + wrap64 b) = wrap64 (a + b) := by unfold wrap64; omega
theorem w64_sub (a b : Int) : wrap64 (wrap64 a - b) = wrap64 (a - b) := by unfold wrap64; omega
theorem w64_cong (a b : Int) (h : a % 18446744073709551616 = b % 18446744073709551616) : wrap64 a = wrap64 b := by unfold wrap64; omega
theorem w64_mod (a : Int) : wrap64 a % 18446744073709551616 = a % 18446744073709551616 := by unfold wrap64; omega
theorem w64_mul (a b : Int) : wrap64 (wrap64 a * b) = wrap64 (a * b) := w64_cong _ _ (by rw [Int.mul_emod, w64_mod, ← Int.mul_emod])
theorem w64_mul' (a b : Int) : wrap64 (a * wrap64 b) = wrap64 (a * b) := w64_cong _ _ (by rw [Int.mul_emod, w64_mod, ← Int.mul_emod])
theorem w64_id (a : Int) (h : (Lit.int .i64 a).wf = true) : wrap64 a = a := IntWalk.wrap64_in a (bounds_i64 h)

set_option maxHeartbeats 400000 in
theorem walk (a0 : Int) (a1 : Int) (a2 : Int) (w0 : (Lit.int .i64 a0).wf = true) (w1 : (Lit.int .i64 a1).wf = true) (w2 : (Lit.int .i64 a2).wf = true) (w : World) :
    Calls Try.prog 5 #[.int .i64 a0, .int .i64 a1, .int .i64 a2] w fun e w' => e = .returned (.bool true) ∧ Kp w w' := by
  have f1 : (doV 1 (doV 1 a0 a1) a2 == doV 1 a0 (doV 1 a1 a2)) = true := by simp only [doV, if_true]; simp [w64_add, w64_add', Int.add_assoc]
  have f2 : (doV 1 a0 a1 == doV 1 a1 a0) = true := by simp [doV, Int.add_comm]
  have f3 : (doV 3 (doV 3 a0 a1) a2 == doV 3 a0 (doV 3 a1 a2)) = true := by simp [doV, w64_mul, w64_mul', Int.mul_assoc]
  have f4 : (doV 3 a0 a1 == doV 3 a1 a0) = true := by simp [doV, Int.mul_comm]
  have f5 : (doV 3 a0 (doV 1 a1 a2) == doV 1 (doV 3 a0 a1) (doV 3 a0 a2)) = true := by simp [doV, w64_mul', w64_add, w64_add', Int.mul_add]
  have f6 : (doV 2 (doV 1 a0 a1) a1 == a0) = true := by simp [doV, w64_sub, w64_id a0 w0]
  have f7 : (doV 3 a0 1 == a0) = true := by simp [doV, w64_id a0 w0]
  have f8 : (doV 1 a0 0 == a0) = true := by simp [doV, w64_id a0 w0]
  clear w0 w1 w2
  go_enter Try.func5, Try.ntmps5
  go_wp2_with (first | (go_at_call 18; refine (kdo_any _ _ _ _).mono ?_; rintro e w' ⟨rfl, rfl⟩) | (go_at_call 19; refine (awake_any _).mono ?_; rintro e w' ⟨rfl, rfl⟩))
  go_ret
  exact ⟨rfl, Kp.refl _⟩

/-! ### The row's step (the guide's frame, written by program) -/
set_option maxRecDepth 100000 in
theorem lifted (os : Os) (started : os.Started) (H : Type) (enc : TypeId × Value → H) :
    ReturnsInHanded {} Try.checked os 5 .any (Rows.wordRingSpec.pre6 enc Try.prog Try.f5 Rows.wordRingRow.domain false) (Rows.wordRingSpec.post enc Try.prog Try.f5 false true false false) := by
  refine returnsInHanded_of_change (C := Try.checked) own started (by kernel_rfl) Try.func5
    (ChangeSpec.witness6 (enc := enc) (C := Try.checked) false ⟨#[], #[.int .i64 0, .int .i64 0, .int .i64 0], []⟩ 8 (by kernel_rfl) (by kernel_rfl) (by kernel_rfl) (by kernel_rfl)) ?_
  intro W base args ds gs before hval0 hW hcnd _
  have hval : ∀ (j : Nat) t v, Try.f5.params[j]? = some t → args[j]? = some v → Value.okWide Try.prog W .any base t v := hval0
  have hW' := hW
  obtain ⟨p, q, hA0, hV, rfl, hfz, hnd⟩ := hW
  have hA : DataW.TrodAll enc Try.prog W 0 (fun _ => true) true Try.f5.params.toList args.toList ds p := hA0
  rw [Try.params5] at hA hval
  obtain ⟨v0, vs0, d0, ds0, p0, q0, hargs, rfl, rfl, h0, r0⟩ := trodAll_cons hA
  obtain ⟨v1, vs1, d1, ds1, p1, q1, rfl, rfl, rfl, h1, r1⟩ := trodAll_cons r0
  obtain ⟨v2, vs2, d2, ds2, p2, q2, rfl, rfl, rfl, h2, r2⟩ := trodAll_cons r1
  obtain ⟨rfl, rfl, rfl⟩ := trodAll_nil r2
  obtain rfl : args = #[v0, v1, v2] := by cases args; simp_all
  obtain ⟨rfl, rfl⟩ := trodVars_none hV
  obtain ⟨a0, rfl, rfl, rfl, w0⟩ := open_int Try.underlying3 (hval 0 3 v0 rfl rfl) h0
  obtain ⟨a1, rfl, rfl, rfl, w1⟩ := open_int Try.underlying3 (hval 1 3 v1 rfl rfl) h1
  obtain ⟨a2, rfl, rfl, rfl, w2⟩ := open_int Try.underlying3 (hval 2 3 v2 rfl rfl) h2
  clear hA0 hval0
  simp only [List.append_nil] at hW'
  refine (walk a0 a1 a2 w0 w1 w2 W).mono fun e W' ⟨he, bel⟩ => ?_
  subst he
  exact ⟨_, rfl, _, _, _, [], _, [], hW', trodAll_mk1 (shut_bool Try.underlying4 _), (trodAll_cons_mk (shut_int Try.underlying3 w0) (trodAll_cons_mk (shut_int Try.underlying3 w1) (trodAll_cons_mk (shut_int Try.underlying3 w2) trodAll_mk0))), rfl, Below.frame bel _, fun h => by cases h⟩

theorem over : Rows.wordRingRow.holds Try.pinned (OpenSpec.ofChange Rows.wordRingSpec) :=
  OpenClaim.holds_of_wide 5 Try.f5 rfl rfl rfl rfl rfl rfl rfl ⟨rfl, rfl, rfl, rfl, rfl⟩ rfl rfl rfl rfl rfl (by kernel_rfl) Try.func5 (by kernel_rfl)
    (of_decide_eq_true (by kernel_rfl)) (by unfold Func.isWrapper; rw [if_neg (of_decide_eq_false (by kernel_rfl))]; exact ⟨rfl, rfl⟩)
    (fun os started H enc _ => lifted os started H enc)

/-- THE STATEMENT. -/
theorem proved : Rows.WordRingSaid := over
#print axioms proved

end Go.Proofs.Ytjebfdmniebcnaa.wordRing
