/-
  The law WordShifts answers true for every number and every two places. No condition.
-/
import Derived.Test.YtjebfdmniebcnaaKword
namespace Go.Proofs.Ytjebfdmniebcnaa.wordShifts
open Go.ChangeShapes Go.WideShapes Go.ChangeAt Go.RowKit
set_option linter.unusedVariables false

theorem own : ownKnob Try.prog.godebug = none := by kernel_rfl


theorem pow64 (n : Nat) (h : 64 ≤ n) : ∃ m : Int, (2 : Int) ^ n = 18446744073709551616 * m := by
  obtain ⟨k, rfl⟩ : ∃ k, n = 64 + k := ⟨n - 64, by omega⟩
  exact ⟨2 ^ k, by rw [Int.pow_add]; rfl⟩
theorem shl_all (a b : Int) (hb : 0 ≤ b) : doV 6 a b = wrap64 (a * 2 ^ b.toNat) := by
  unfold doV; rw [if_neg (by omega), if_neg (by omega), if_neg (by omega), if_neg (by omega), if_neg (by omega), if_pos (by omega), if_neg (by omega)]
  unfold shV
  split
  · rename_i h
    obtain ⟨m, hm⟩ := pow64 b.toNat (by omega)
    rw [hm, if_neg (by omega), ← Int.mul_assoc, Int.mul_comm a, Int.mul_assoc]; unfold wrap64; omega
  · rfl
theorem pow_ge (n : Nat) (h : 63 ≤ n) : (9223372036854775808 : Int) ≤ 2 ^ n := by
  obtain ⟨k, rfl⟩ : ∃ k, n = 63 + k := ⟨n - 63, by omega⟩
  rw [Int.pow_add]
  have : (1 : Int) ≤ 2 ^ k := by have := Int.pow_pos (n := 2) (m := k) (by decide); omega
  have e : (2 : Int) ^ 63 = 9223372036854775808 := rfl
  rw [e]; omega
theorem shr_all (a b : Int) (ha : -9223372036854775808 ≤ a ∧ a ≤ 9223372036854775807) (hb : 0 ≤ b) : doV 7 a b = a / 2 ^ b.toNat := by
  unfold doV; rw [if_neg (by omega), if_neg (by omega), if_neg (by omega), if_neg (by omega), if_neg (by omega), if_pos (by omega), if_neg (by omega)]
  unfold shV
  split
  · rename_i h
    have hp := pow_ge b.toNat (by omega)
    by_cases hn : a < 0
    · rw [if_pos ⟨rfl, hn⟩]; symm
      rw [Int.ediv_eq_iff_of_pos (by omega)]; omega
    · rw [if_neg (by omega)]; symm
      exact Int.ediv_eq_zero_of_lt (by omega) (by omega)
  · rw [if_neg (by omega)]
theorem div_bd (a : Int) (n : Nat) (ha : -9223372036854775808 ≤ a ∧ a ≤ 9223372036854775807) : -9223372036854775808 ≤ a / 2 ^ n ∧ a / 2 ^ n ≤ 9223372036854775807 := by
  have hp : (1 : Int) ≤ 2 ^ n := by have := Int.pow_pos (n := 2) (m := n) (by decide); omega
  constructor
  · rw [Int.le_ediv_iff_mul_le (by omega)]
    have : (-9223372036854775808 : Int) * 2 ^ n ≤ -9223372036854775808 := by omega
    omega
  · by_cases h : 0 ≤ a
    · have := Int.ediv_le_self (2 ^ n) h; omega
    · have := Int.ediv_neg_of_neg_of_pos (a := a) (b := 2 ^ n) (by omega) (by omega); omega
theorem two (a j k : Int) (hj : 0 ≤ j) (hk : 0 ≤ k) : doV 6 (doV 6 a j) k = doV 6 a (j + k) := by
  rw [shl_all _ _ hk, shl_all _ _ hj, shl_all _ _ (by omega), w64_mul, Int.toNat_add hj hk, Int.pow_add, Int.mul_assoc]
theorem backs (a j k : Int) (ha : -9223372036854775808 ≤ a ∧ a ≤ 9223372036854775807) (hj : 0 ≤ j) (hk : 0 ≤ k) : doV 7 (doV 7 a j) k = doV 7 a (j + k) := by
  rw [shr_all _ _ ha hj, shr_all _ _ (div_bd a _ ha) hk, shr_all _ _ ha (by omega), Int.toNat_add hj hk, Int.pow_add, Int.ediv_ediv_of_nonneg]
  have := Int.pow_pos (n := 2) (m := j.toNat) (by decide); omega
theorem fact1 (a j k : Int) (ha : -9223372036854775808 ≤ a ∧ a ≤ 9223372036854775807) (hj : 0 ≤ j) (hk : 0 ≤ k) :
    (doV 6 (doV 6 a j) k == doV 6 a (j + k)) = true ∧ (doV 7 (doV 7 a j) k == doV 7 a (j + k)) = true ∧ (doV 6 a 1 == doV 1 a a) = true ∧ (doV 6 a (64 + j) == 0) = true ∧ (doE 6 (-1 - j) == 21) = true ∧ (doE 7 (-1 - k) == 21) = true := by
  refine ⟨by simp [two a j k hj hk], by simp [backs a j k ha hj hk], ?_, ?_, by simp [doE]; omega, by simp [doE]; omega⟩
  · rw [shl_all _ _ (by omega)]; simp [doV]; congr 1; omega
  · unfold doV; rw [if_neg (by omega), if_neg (by omega), if_neg (by omega), if_neg (by omega), if_neg (by omega), if_pos (by omega), if_neg (by omega)]; unfold shV; rw [if_pos (by omega), if_neg (by omega)]; rfl
set_option maxHeartbeats 1000000 in
theorem walk (a0 : Int) (a1 : Int) (a2 : Int) (w0 : (Lit.int .i64 a0).wf = true) (w1 : (Lit.int .i64 a1).wf = true) (w2 : (Lit.int .i64 a2).wf = true) (w : World) :
    Calls Try.prog 7 #[.int .i64 a0, .int .i64 a1, .int .i64 a2] w fun e w' => e = .returned (.bool true) ∧ Kp w w' := by
  have ba := bounds_i64 w0
  have sj := spotV_bd a1 40 (by omega)
  have sk := spotV_bd a2 40 (by omega)
  obtain ⟨f1, f2, f3, f4, f5, f6⟩ := fact1 a0 _ _ ba sj.1 sk.1
  clear w0 w1 w2
  go_enter Try.func7, Try.ntmps7
  go_wp2_with (first | (go_at_call 21; refine (spot_any _ _ _ (by omega) (by omega)).mono ?_; rintro e w' ⟨rfl, rfl⟩) | (go_at_call 18; refine (kdo_any _ _ _ _).mono ?_; rintro e w' ⟨rfl, rfl⟩) | (go_at_call 20; refine (do_any _ _ _ _).mono ?_; rintro e w' ⟨rfl, rfl⟩) | (go_at_call 19; refine (awake_any _).mono ?_; rintro e w' ⟨rfl, rfl⟩))
  go_ret
  exact ⟨rfl, Kp.refl _⟩

/-! ### The row's step (the guide's frame, written by program) -/
set_option maxRecDepth 100000 in
theorem lifted (os : Os) (started : os.Started) (H : Type) (enc : TypeId × Value → H) :
    ReturnsInHanded {} Try.checked os 7 .any (Rows.wordShiftsSpec.pre6 enc Try.prog Try.f7 Rows.wordShiftsRow.domain false) (Rows.wordShiftsSpec.post enc Try.prog Try.f7 false true false false) := by
  refine returnsInHanded_of_change (C := Try.checked) own started (by kernel_rfl) Try.func7
    (ChangeSpec.witness6 (enc := enc) (C := Try.checked) false ⟨#[], #[.int .i64 0, .int .i64 0, .int .i64 0], []⟩ 8 (by kernel_rfl) (by kernel_rfl) (by kernel_rfl) (by kernel_rfl)) ?_
  intro W base args ds gs before hval0 hW hcnd _
  have hval : ∀ (j : Nat) t v, Try.f7.params[j]? = some t → args[j]? = some v → Value.okWide Try.prog W .any base t v := hval0
  have hW' := hW
  obtain ⟨p, q, hA0, hV, rfl, hfz, hnd⟩ := hW
  have hA : DataW.TrodAll enc Try.prog W 0 (fun _ => true) true Try.f7.params.toList args.toList ds p := hA0
  rw [Try.params7] at hA hval
  obtain ⟨v0, vs0, d0, ds0, p0, q0, hargs, rfl, rfl, h0, r0⟩ := trodAll_cons hA
  obtain ⟨v1, vs1, d1, ds1, p1, q1, rfl, rfl, rfl, h1, r1⟩ := trodAll_cons r0
  obtain ⟨v2, vs2, d2, ds2, p2, q2, rfl, rfl, rfl, h2, r2⟩ := trodAll_cons r1
  obtain ⟨rfl, rfl, rfl⟩ := trodAll_nil r2
  obtain rfl : args = #[v0, v1, v2] := by cases args; simp_all
  obtain ⟨rfl, rfl⟩ := trodVars_none hV
  obtain ⟨a0, rfl, rfl, rfl, w0⟩ := open_int Try.underlying3 (hval 0 3 v0 rfl rfl) h0
  obtain ⟨a1, rfl, rfl, rfl, w1⟩ := open_int Try.underlying3 (hval 1 3 v1 rfl rfl) h1
  obtain ⟨a2, rfl, rfl, rfl, w2⟩ := open_int Try.underlying3 (hval 2 3 v2 rfl rfl) h2
  clear hA0 hval0
  simp only [List.append_nil] at hW'
  refine (walk a0 a1 a2 w0 w1 w2 W).mono fun e W' ⟨he, bel⟩ => ?_
  subst he
  exact ⟨_, rfl, _, _, _, [], _, [], hW', trodAll_mk1 (shut_bool Try.underlying4 _), (trodAll_cons_mk (shut_int Try.underlying3 w0) (trodAll_cons_mk (shut_int Try.underlying3 w1) (trodAll_cons_mk (shut_int Try.underlying3 w2) trodAll_mk0))), rfl, Below.frame bel _, fun h => by cases h⟩

theorem over : Rows.wordShiftsRow.holds Try.pinned (OpenSpec.ofChange Rows.wordShiftsSpec) :=
  OpenClaim.holds_of_wide 7 Try.f7 rfl rfl rfl rfl rfl rfl rfl ⟨rfl, rfl, rfl, rfl, rfl⟩ rfl rfl rfl rfl rfl (by kernel_rfl) Try.func7 (by kernel_rfl)
    (of_decide_eq_true (by kernel_rfl)) (by unfold Func.isWrapper; rw [if_neg (of_decide_eq_false (by kernel_rfl))]; exact ⟨rfl, rfl⟩)
    (fun os started H enc _ => lifted os started H enc)

/-- THE STATEMENT. -/
theorem proved : Rows.WordShiftsSaid := over
#print axioms proved

end Go.Proofs.Ytjebfdmniebcnaa.wordShifts
