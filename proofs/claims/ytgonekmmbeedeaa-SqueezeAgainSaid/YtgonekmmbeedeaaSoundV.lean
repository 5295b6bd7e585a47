/-
  Package code: within, fields, checks, judge.field, judge.ins. Condition: the function's numbers lie within their bounds.
-/
import Derived.Test.YtgonekmmbeedeaaSoundP
import Derived.Test.YtgonekmmbeedeaaRegF
import Derived.Test.YtgonekmmbeedeaaBox
import Derived.Test.YtgonekmmbeedeaaBlk
import Derived.Deep.DeepCutAuto
namespace Go.Proofs.Ytgonekmmbeedeaa
open Go.RowKit
set_option linter.unusedVariables false
set_option linter.unusedSimpArgs false

theorem withinB_iff {n lo hi : Int} : withinB n lo hi = true ↔ lo ≤ n ∧ n ≤ hi := by unfold withinB; simp
set_option maxHeartbeats 1000000 in
theorem within_any (n lo hi : Int) (w : World) : Calls Try.prog 54 #[.int .i64 n, .int .i64 lo, .int .i64 hi] w fun e w' => e = .returned (.bool (withinB n lo hi)) ∧ w = w' := by
  by_cases h1 : lo ≤ n
  · by_cases h2 : n ≤ hi
    · go_enter Try.func54, Try.ntmps54
      go_wp2
      go_ret
      exact ⟨ret_bool (by unfold withinB; simp [h1, h2]), rfl⟩
    · go_enter Try.func54, Try.ntmps54
      go_wp2
      go_ret
      exact ⟨ret_bool (by unfold withinB; simp [h1, h2]), rfl⟩
  · go_enter Try.func54, Try.ntmps54
    go_wp2
    go_ret
    exact ⟨ret_bool (by unfold withinB; simp; intro h; omega), rfl⟩
theorem fieldsM_none (op : Int) (h : op < 1 ∨ op = 24 ∨ 41 < op) : fieldsM op = [] := by
  rcases h with h | rfl | h
  · by_cases h0 : 0 ≤ op
    · obtain rfl : op = 0 := by omega
      rfl
    · unfold fieldsM; rw [if_neg h0]
  · rfl
  · unfold fieldsM
    rw [if_pos (by omega), List.getElem?_eq_none (by show 42 ≤ op.toNat; omega)]; rfl
theorem checksM_none (op : Int) (h : op < 1 ∨ 12 < op) : checksM op = [] := by
  rcases h with h | h
  · by_cases h0 : 0 ≤ op
    · obtain rfl : op = 0 := by omega
      rfl
    · unfold checksM; rw [if_neg h0]
  · unfold checksM
    rw [if_pos (by omega), List.getElem?_eq_none (by show 13 ≤ op.toNat; omega)]; rfl
set_option maxHeartbeats 8000000 in
theorem fields_any (op : Int) (w : World) : Calls Try.prog 55 #[.int .i64 op] w fun e w' => e = .returned (.string ⟨(fieldsM op).toArray⟩) ∧ w = w' := by
  by_cases hn : op < 1 ∨ op = 24 ∨ 41 < op
  · have HN := hid (fieldsM_none op hn)
    have t1 : (op == 1) = false := by rw [beq_eq_false_iff_ne]; omega
    have t2 : (op == 2) = false := by rw [beq_eq_false_iff_ne]; omega
    have t3 : (op == 3) = false := by rw [beq_eq_false_iff_ne]; omega
    have t4 : (op == 4) = false := by rw [beq_eq_false_iff_ne]; omega
    have t5 : (op == 5) = false := by rw [beq_eq_false_iff_ne]; omega
    have t6 : (op == 6) = false := by rw [beq_eq_false_iff_ne]; omega
    have t7 : (op == 7) = false := by rw [beq_eq_false_iff_ne]; omega
    have t8 : (op == 8) = false := by rw [beq_eq_false_iff_ne]; omega
    have t9 : (op == 9) = false := by rw [beq_eq_false_iff_ne]; omega
    have t10 : (op == 10) = false := by rw [beq_eq_false_iff_ne]; omega
    have t11 : (op == 11) = false := by rw [beq_eq_false_iff_ne]; omega
    have t12 : (op == 12) = false := by rw [beq_eq_false_iff_ne]; omega
    have t13 : (op == 13) = false := by rw [beq_eq_false_iff_ne]; omega
    have t14 : (op == 14) = false := by rw [beq_eq_false_iff_ne]; omega
    have t15 : (op == 15) = false := by rw [beq_eq_false_iff_ne]; omega
    have t16 : (op == 16) = false := by rw [beq_eq_false_iff_ne]; omega
    have t17 : (op == 17) = false := by rw [beq_eq_false_iff_ne]; omega
    have t18 : (op == 18) = false := by rw [beq_eq_false_iff_ne]; omega
    have t19 : (op == 19) = false := by rw [beq_eq_false_iff_ne]; omega
    have t20 : (op == 20) = false := by rw [beq_eq_false_iff_ne]; omega
    have t21 : (op == 21) = false := by rw [beq_eq_false_iff_ne]; omega
    have t22 : (op == 22) = false := by rw [beq_eq_false_iff_ne]; omega
    have t23 : (op == 23) = false := by rw [beq_eq_false_iff_ne]; omega
    have t25 : (op == 25) = false := by rw [beq_eq_false_iff_ne]; omega
    have t26 : (op == 26) = false := by rw [beq_eq_false_iff_ne]; omega
    have t27 : (op == 27) = false := by rw [beq_eq_false_iff_ne]; omega
    have t28 : (op == 28) = false := by rw [beq_eq_false_iff_ne]; omega
    have t29 : (op == 29) = false := by rw [beq_eq_false_iff_ne]; omega
    have t30 : (op == 30) = false := by rw [beq_eq_false_iff_ne]; omega
    have t31 : (op == 31) = false := by rw [beq_eq_false_iff_ne]; omega
    have t32 : (op == 32) = false := by rw [beq_eq_false_iff_ne]; omega
    have t33 : (op == 33) = false := by rw [beq_eq_false_iff_ne]; omega
    have t34 : (op == 34) = false := by rw [beq_eq_false_iff_ne]; omega
    have t35 : (op == 35) = false := by rw [beq_eq_false_iff_ne]; omega
    have t36 : (op == 36) = false := by rw [beq_eq_false_iff_ne]; omega
    have t37 : (op == 37) = false := by rw [beq_eq_false_iff_ne]; omega
    have t38 : (op == 38) = false := by rw [beq_eq_false_iff_ne]; omega
    have t39 : (op == 39) = false := by rw [beq_eq_false_iff_ne]; omega
    have t40 : (op == 40) = false := by rw [beq_eq_false_iff_ne]; omega
    have t41 : (op == 41) = false := by rw [beq_eq_false_iff_ne]; omega
    clear hn
    go_enter Try.func55, Try.ntmps55
    go_wp2
    go_ret
    exact ⟨by rw [HN.out]; rfl, rfl⟩
  have hc : op = 1 ∨ op = 2 ∨ op = 3 ∨ op = 4 ∨ op = 5 ∨ op = 6 ∨ op = 7 ∨ op = 8 ∨ op = 9 ∨ op = 10 ∨ op = 11 ∨ op = 12 ∨ op = 13 ∨ op = 14 ∨ op = 15 ∨ op = 16 ∨ op = 17 ∨ op = 18 ∨ op = 19 ∨ op = 20 ∨ op = 21 ∨ op = 22 ∨ op = 23 ∨ op = 25 ∨ op = 26 ∨ op = 27 ∨ op = 28 ∨ op = 29 ∨ op = 30 ∨ op = 31 ∨ op = 32 ∨ op = 33 ∨ op = 34 ∨ op = 35 ∨ op = 36 ∨ op = 37 ∨ op = 38 ∨ op = 39 ∨ op = 40 ∨ op = 41 := by omega
  clear hn
  rcases hc with rfl | rfl | rfl | rfl | rfl | rfl | rfl | rfl | rfl | rfl | rfl | rfl | rfl | rfl | rfl | rfl | rfl | rfl | rfl | rfl | rfl | rfl | rfl | rfl | rfl | rfl | rfl | rfl | rfl | rfl | rfl | rfl | rfl | rfl | rfl | rfl | rfl | rfl | rfl | rfl
  all_goals
    go_enter Try.func55, Try.ntmps55
    go_wp2
    go_ret
    exact ⟨rfl, rfl⟩
set_option maxHeartbeats 8000000 in
theorem checks_any (op : Int) (w : World) : Calls Try.prog 56 #[.int .i64 op] w fun e w' => e = .returned (.string ⟨(checksM op).toArray⟩) ∧ w = w' := by
  by_cases hn : op < 1 ∨ 12 < op
  · have HN := hid (checksM_none op hn)
    have t1 : (op == 1) = false := by rw [beq_eq_false_iff_ne]; omega
    have t2 : (op == 2) = false := by rw [beq_eq_false_iff_ne]; omega
    have t3 : (op == 3) = false := by rw [beq_eq_false_iff_ne]; omega
    have t4 : (op == 4) = false := by rw [beq_eq_false_iff_ne]; omega
    have t5 : (op == 5) = false := by rw [beq_eq_false_iff_ne]; omega
    have t6 : (op == 6) = false := by rw [beq_eq_false_iff_ne]; omega
    have t7 : (op == 7) = false := by rw [beq_eq_false_iff_ne]; omega
    have t8 : (op == 8) = false := by rw [beq_eq_false_iff_ne]; omega
    have t9 : (op == 9) = false := by rw [beq_eq_false_iff_ne]; omega
    have t10 : (op == 10) = false := by rw [beq_eq_false_iff_ne]; omega
    have t11 : (op == 11) = false := by rw [beq_eq_false_iff_ne]; omega
    have t12 : (op == 12) = false := by rw [beq_eq_false_iff_ne]; omega
    clear hn
    go_enter Try.func56, Try.ntmps56
    go_wp2
    go_ret
    exact ⟨by rw [HN.out]; rfl, rfl⟩
  have hc : op = 1 ∨ op = 2 ∨ op = 3 ∨ op = 4 ∨ op = 5 ∨ op = 6 ∨ op = 7 ∨ op = 8 ∨ op = 9 ∨ op = 10 ∨ op = 11 ∨ op = 12 := by omega
  clear hn
  rcases hc with rfl | rfl | rfl | rfl | rfl | rfl | rfl | rfl | rfl | rfl | rfl | rfl
  all_goals
    go_enter Try.func56, Try.ntmps56
    go_wp2
    go_ret
    exact ⟨rfl, rfl⟩
end Go.Proofs.Ytgonekmmbeedeaa
