/-
  The law ReportStatus answers true for every two numbers. No condition.
-/
import Derived.Test.YtjebfdmniebcnaaBase
namespace Go.Proofs.Ytjebfdmniebcnaa.reportStatus
open Go.ChangeShapes Go.WideShapes Go.ChangeAt Go.RowKit
set_option linter.unusedVariables false

theorem own : ownKnob Try.prog.godebug = none := by kernel_rfl


theorem and255 (n : Int) : 0 ≤ bits .and .i64 n 255 ∧ bits .and .i64 n 255 < 256 := by
  have h : (BitVec.ofInt 64 n &&& BitVec.ofInt 64 255).toNat < 256 := by
    rw [BitVec.toNat_and]; exact Nat.lt_of_le_of_lt Nat.and_le_right (by decide)
  show 0 ≤ IntKind.i64.wrap ((BitVec.ofInt 64 n &&& BitVec.ofInt 64 255).toNat : Int) ∧ IntKind.i64.wrap ((BitVec.ofInt 64 n &&& BitVec.ofInt 64 255).toNat : Int) < 256
  rw [IntWalk.i64_in _ (by omega)]; omega
set_option maxHeartbeats 1000000 in
theorem status_any (k n : Int) (w : World) (h : k = 1 ∨ k = 2 ∨ k = 3 ∨ k = 4 ∨ k = 5 ∨ k = 6 ∨ k = 7 ∨ k = 8) :
    Calls Try.prog 30 #[.int .i64 k, .int .i64 n] w fun e w' => (∃ s : Int, 0 ≤ s ∧ s < 256 ∧ (k = 2 → s = 2) ∧ e = .returned (.tuple #[.int .i64 s, .int .i64 0])) ∧ w = w' := by
  have ha := and255 n
  rcases h with rfl | rfl | rfl | rfl | rfl | rfl | rfl | rfl
  all_goals
    go_enter Try.func30, Try.ntmps30
    go_wp2
    go_ret2
    exact ⟨⟨_, (by omega), (by omega), (by simp), rfl⟩, rfl⟩
set_option maxHeartbeats 1000000 in
theorem status_no (k n : Int) (w : World) (h : k < 1 ∨ 8 < k) :
    Calls Try.prog 30 #[.int .i64 k, .int .i64 n] w fun e w' => e = .returned (.tuple #[.int .i64 0, .int .i64 13]) ∧ w = w' := by
  rcases h with h | h
  all_goals
    go_enter Try.func30, Try.ntmps30
    go_wp2
    go_ret2
    exact ⟨rfl, rfl⟩
set_option maxHeartbeats 1000000 in
theorem ending_any (k : Int) (w : World) (h : k = 1 ∨ k = 2 ∨ k = 3 ∨ k = 4 ∨ k = 5 ∨ k = 6 ∨ k = 7 ∨ k = 8) :
    Calls Try.prog 31 #[.int .i64 k] w fun e w' => (∃ s : ByteArray, e = .returned (.tuple #[.string s, .int .i64 0]) ∧ s.toList.isEmpty = false) ∧ w = w' := by
  have hi : ∀ (x0 x1 x2 x3 x4 x5 x6 x7 : Value) (w : World), (Instr.index 51 (.agg #[x0, x1, x2, x3, x4, x5, x6, x7]) (.int .i64 0)).run Try.prog w = .ok x0 w ∧ (Instr.index 51 (.agg #[x0, x1, x2, x3, x4, x5, x6, x7]) (.int .i64 1)).run Try.prog w = .ok x1 w ∧ (Instr.index 51 (.agg #[x0, x1, x2, x3, x4, x5, x6, x7]) (.int .i64 2)).run Try.prog w = .ok x2 w ∧ (Instr.index 51 (.agg #[x0, x1, x2, x3, x4, x5, x6, x7]) (.int .i64 3)).run Try.prog w = .ok x3 w ∧ (Instr.index 51 (.agg #[x0, x1, x2, x3, x4, x5, x6, x7]) (.int .i64 4)).run Try.prog w = .ok x4 w ∧ (Instr.index 51 (.agg #[x0, x1, x2, x3, x4, x5, x6, x7]) (.int .i64 5)).run Try.prog w = .ok x5 w ∧ (Instr.index 51 (.agg #[x0, x1, x2, x3, x4, x5, x6, x7]) (.int .i64 6)).run Try.prog w = .ok x6 w ∧ (Instr.index 51 (.agg #[x0, x1, x2, x3, x4, x5, x6, x7]) (.int .i64 7)).run Try.prog w = .ok x7 w :=
    fun _ _ _ _ _ _ _ _ _ => ⟨by kernel_rfl, by kernel_rfl, by kernel_rfl, by kernel_rfl, by kernel_rfl, by kernel_rfl, by kernel_rfl, by kernel_rfl⟩
  rcases h with rfl | rfl | rfl | rfl | rfl | rfl | rfl | rfl
  all_goals
    go_enter Try.func31, Try.ntmps31
    go_wp2
    go_ret2
    exact ⟨⟨_, rfl, by decide +kernel⟩, rfl⟩
set_option maxHeartbeats 1000000 in
theorem ending_no (k : Int) (w : World) (h : k < 1 ∨ 8 < k) :
    Calls Try.prog 31 #[.int .i64 k] w fun e w' => e = .returned (.tuple #[.string ⟨#[]⟩, .int .i64 13]) ∧ w = w' := by
  rcases h with h | h
  all_goals
    go_enter Try.func31, Try.ntmps31
    go_wp2
    go_ret2
    exact ⟨rfl, rfl⟩
set_option maxHeartbeats 1000000 in
theorem walk (a0 : Int) (a1 : Int) (w0 : (Lit.int .i64 a0).wf = true) (w1 : (Lit.int .i64 a1).wf = true) (w : World) :
    Calls Try.prog 14 #[.int .i64 a0, .int .i64 a1] w fun e w' => e = .returned (.bool true) ∧ Kp w w' := by
  clear w0 w1
  by_cases h : 1 ≤ a0 ∧ a0 ≤ 8
  · go_enter Try.func14, Try.ntmps14
    go_wp2_with fail
    refine (status_any _ _ _ (by omega)).mono ?_
    rintro e w1 ⟨⟨s, h1, h2, h3, rfl⟩, rfl⟩
    clear h3
    go_wp2_with fail
    refine (ending_any _ _ (by omega)).mono ?_
    rintro e w1 ⟨⟨t, rfl, ht⟩, rfl⟩
    clear h
    go_wp2_with fail
    refine (status_any 2 0 _ (by omega)).mono ?_
    rintro e w1 ⟨⟨x, g1, g2, g3, rfl⟩, rfl⟩
    obtain rfl := g3 rfl
    have ht' : (t.toList == []) = false := by cases hx : t.toList with | nil => simp [hx] at ht | cons a l => rfl
    clear g3 g1 g2
    go_wp2
    go_ret
    exact ⟨rfl, Kp.refl _⟩
  · go_enter Try.func14, Try.ntmps14
    go_wp2_with fail
    refine (status_no _ _ _ (by omega)).mono ?_
    rintro e w1 ⟨rfl, rfl⟩
    go_wp2_with fail
    refine (ending_no _ _ (by omega)).mono ?_
    rintro e w1 ⟨rfl, rfl⟩
    go_wp2_with fail
    refine (status_any 2 0 _ (by omega)).mono ?_
    rintro e w1 ⟨⟨x, g1, g2, g3, rfl⟩, rfl⟩
    obtain rfl := g3 rfl
    clear g3 g1 g2
    go_wp2
    go_ret
    exact ⟨rfl, Kp.refl _⟩

/-! ### The row's step (the guide's frame, written by program) -/
set_option maxRecDepth 100000 in
theorem lifted (os : Os) (started : os.Started) (H : Type) (enc : TypeId × Value → H) :
    ReturnsInHanded {} Try.checked os 14 .any (Rows.reportStatusSpec.pre6 enc Try.prog Try.f14 Rows.reportStatusRow.domain false) (Rows.reportStatusSpec.post enc Try.prog Try.f14 false true false false) := by
  refine returnsInHanded_of_change (C := Try.checked) own started (by kernel_rfl) Try.func14
    (ChangeSpec.witness6 (enc := enc) (C := Try.checked) false ⟨#[], #[.int .i64 0, .int .i64 0], []⟩ 8 (by kernel_rfl) (by kernel_rfl) (by kernel_rfl) (by kernel_rfl)) ?_
  intro W base args ds gs before hval0 hW hcnd _
  have hval : ∀ (j : Nat) t v, Try.f14.params[j]? = some t → args[j]? = some v → Value.okWide Try.prog W .any base t v := hval0
  have hW' := hW
  obtain ⟨p, q, hA0, hV, rfl, hfz, hnd⟩ := hW
  have hA : DataW.TrodAll enc Try.prog W 0 (fun _ => true) true Try.f14.params.toList args.toList ds p := hA0
  rw [Try.params14] at hA hval
  obtain ⟨v0, vs0, d0, ds0, p0, q0, hargs, rfl, rfl, h0, r0⟩ := trodAll_cons hA
  obtain ⟨v1, vs1, d1, ds1, p1, q1, rfl, rfl, rfl, h1, r1⟩ := trodAll_cons r0
  obtain ⟨rfl, rfl, rfl⟩ := trodAll_nil r1
  obtain rfl : args = #[v0, v1] := by cases args; simp_all
  obtain ⟨rfl, rfl⟩ := trodVars_none hV
  obtain ⟨a0, rfl, rfl, rfl, w0⟩ := open_int Try.underlying3 (hval 0 3 v0 rfl rfl) h0
  obtain ⟨a1, rfl, rfl, rfl, w1⟩ := open_int Try.underlying3 (hval 1 3 v1 rfl rfl) h1
  clear hA0 hval0
  simp only [List.append_nil] at hW'
  refine (walk a0 a1 w0 w1 W).mono fun e W' ⟨he, bel⟩ => ?_
  subst he
  exact ⟨_, rfl, _, _, _, [], _, [], hW', trodAll_mk1 (shut_bool Try.underlying4 _), (trodAll_cons_mk (shut_int Try.underlying3 w0) (trodAll_cons_mk (shut_int Try.underlying3 w1) trodAll_mk0)), rfl, Below.frame bel _, fun h => by cases h⟩

theorem over : Rows.reportStatusRow.holds Try.pinned (OpenSpec.ofChange Rows.reportStatusSpec) :=
  OpenClaim.holds_of_wide 14 Try.f14 rfl rfl rfl rfl rfl rfl rfl ⟨rfl, rfl, rfl, rfl, rfl⟩ rfl rfl rfl rfl rfl (by kernel_rfl) Try.func14 (by kernel_rfl)
    (of_decide_eq_true (by kernel_rfl)) (by unfold Func.isWrapper; rw [if_neg (of_decide_eq_false (by kernel_rfl))]; exact ⟨rfl, rfl⟩)
    (fun os started H enc _ => lifted os started H enc)

/-- THE STATEMENT. -/
theorem proved : Rows.ReportStatusSaid := over
#print axioms proved

end Go.Proofs.Ytjebfdmniebcnaa.reportStatus
