/-
  Package guard: need, Need, After. No condition. (Printed by a program, wip/gen_grd.py.)
-/
import Derived.Test.YtgonekmmbeedeaaSqK
namespace Go.Proofs.Ytgonekmmbeedeaa.Sq
open Go.RowKit
set_option linter.unusedVariables false
set_option linter.unusedSimpArgs false

def needM (i : InsM) : InsM :=
  if i.op = 7 then ⟨24, i.c, 0, 0, (if i.d = 4 ∨ i.d = 5 then 4 else if i.d = 6 ∨ i.d = 7 then 5 else 0), 0⟩
  else if i.op = 11 then ⟨24, i.b, i.c, 0, 8, 0⟩
  else if i.op = 13 then ⟨24, i.b, i.c, 0, 1, 0⟩
  else if i.op = 14 then ⟨24, i.a, i.b, 0, 2, 0⟩
  else if i.op = 15 then ⟨24, i.b, i.c, i.d, 3, 0⟩
  else if i.op = 16 then ⟨24, i.b, 0, 0, 9, 0⟩
  else if i.op = 17 then (if 100 < i.c then ⟨24, i.c, 0, 0, 10, 0⟩ else ⟨24, 0, 0, 0, 0, 0⟩)
  else if i.op = 19 then ⟨24, i.b, 0, 0, 6, 0⟩
  else if i.op = 23 then ⟨24, i.b, 0, 0, 11, 0⟩
  else if i.op = 20 then ⟨24, i.a, 0, 0, 6, 0⟩
  else if i.op = 28 then ⟨24, i.b, i.d, 0, 7, 0⟩
  else if i.op = 31 then ⟨24, i.a, 0, 0, 12, 0⟩
  else ⟨24, 0, 0, 0, 0, 0⟩
theorem agg_need {a b : InsM} (h : a = b) : insV a = .agg #[.int .i64 b.op, .int .i64 b.a, .int .i64 b.b, .int .i64 b.c, .int .i64 b.d, .int .i64 b.e] := by rw [h]; rfl

set_option maxRecDepth 20000 in
set_option maxHeartbeats 4000000 in
theorem need_11 (w : World) (i : InsM) (h : i.op = 11) : Calls Try.prog 74 #[insV i] w fun e w' => e = .returned (.agg #[.int .i64 24, .int .i64 i.b, .int .i64 i.c, .int .i64 0, .int .i64 8, .int .i64 0]) ∧ Kp w w' := by
  have t7 : (i.op == 7) = false := by simp [h]
  have t11 : (i.op == 11) = true := by simp [h]
  have t13 : (i.op == 13) = false := by simp [h]
  have t14 : (i.op == 14) = false := by simp [h]
  have t15 : (i.op == 15) = false := by simp [h]
  have t16 : (i.op == 16) = false := by simp [h]
  have t17 : (i.op == 17) = false := by simp [h]
  have t19 : (i.op == 19) = false := by simp [h]
  have t23 : (i.op == 23) = false := by simp [h]
  have t20 : (i.op == 20) = false := by simp [h]
  have t28 : (i.op == 28) = false := by simp [h]
  have t31 : (i.op == 31) = false := by simp [h]
  clear h
  unfold insV
  go_enter Try.func74, Try.ntmps74
  go_upto_region 13 with fail
  go_region
  all_goals
    go_wp2
    refine bodyPost_ret (v := .agg #[.int .i64 24, .int .i64 i.b, .int .i64 i.c, .int .i64 0, .int .i64 8, .int .i64 0]) (by simp [results, Try.results74, go_sem]) rfl ⟨rfl, ?_⟩
    first | exact (((Kp.refl _).alloc _).alloc _).alloc _ | exact ((((Kp.refl _).alloc _).alloc _).alloc _).drew | exact (((((Kp.refl _).alloc _).alloc _).alloc _).drew).drew | (repeat' first | exact Kp.refl _ | apply Kp.drew | apply Kp.alloc)
set_option maxRecDepth 20000 in
set_option maxHeartbeats 4000000 in
theorem need_13 (w : World) (i : InsM) (h : i.op = 13) : Calls Try.prog 74 #[insV i] w fun e w' => e = .returned (.agg #[.int .i64 24, .int .i64 i.b, .int .i64 i.c, .int .i64 0, .int .i64 1, .int .i64 0]) ∧ Kp w w' := by
  have t7 : (i.op == 7) = false := by simp [h]
  have t11 : (i.op == 11) = false := by simp [h]
  have t13 : (i.op == 13) = true := by simp [h]
  have t14 : (i.op == 14) = false := by simp [h]
  have t15 : (i.op == 15) = false := by simp [h]
  have t16 : (i.op == 16) = false := by simp [h]
  have t17 : (i.op == 17) = false := by simp [h]
  have t19 : (i.op == 19) = false := by simp [h]
  have t23 : (i.op == 23) = false := by simp [h]
  have t20 : (i.op == 20) = false := by simp [h]
  have t28 : (i.op == 28) = false := by simp [h]
  have t31 : (i.op == 31) = false := by simp [h]
  clear h
  unfold insV
  go_enter Try.func74, Try.ntmps74
  go_upto_region 15 with fail
  go_region
  all_goals
    go_wp2
    refine bodyPost_ret (v := .agg #[.int .i64 24, .int .i64 i.b, .int .i64 i.c, .int .i64 0, .int .i64 1, .int .i64 0]) (by simp [results, Try.results74, go_sem]) rfl ⟨rfl, ?_⟩
    first | exact (((Kp.refl _).alloc _).alloc _).alloc _ | exact ((((Kp.refl _).alloc _).alloc _).alloc _).drew | exact (((((Kp.refl _).alloc _).alloc _).alloc _).drew).drew | (repeat' first | exact Kp.refl _ | apply Kp.drew | apply Kp.alloc)
set_option maxRecDepth 20000 in
set_option maxHeartbeats 4000000 in
theorem need_14 (w : World) (i : InsM) (h : i.op = 14) : Calls Try.prog 74 #[insV i] w fun e w' => e = .returned (.agg #[.int .i64 24, .int .i64 i.a, .int .i64 i.b, .int .i64 0, .int .i64 2, .int .i64 0]) ∧ Kp w w' := by
  have t7 : (i.op == 7) = false := by simp [h]
  have t11 : (i.op == 11) = false := by simp [h]
  have t13 : (i.op == 13) = false := by simp [h]
  have t14 : (i.op == 14) = true := by simp [h]
  have t15 : (i.op == 15) = false := by simp [h]
  have t16 : (i.op == 16) = false := by simp [h]
  have t17 : (i.op == 17) = false := by simp [h]
  have t19 : (i.op == 19) = false := by simp [h]
  have t23 : (i.op == 23) = false := by simp [h]
  have t20 : (i.op == 20) = false := by simp [h]
  have t28 : (i.op == 28) = false := by simp [h]
  have t31 : (i.op == 31) = false := by simp [h]
  clear h
  unfold insV
  go_enter Try.func74, Try.ntmps74
  go_upto_region 17 with fail
  go_region
  all_goals
    go_wp2
    refine bodyPost_ret (v := .agg #[.int .i64 24, .int .i64 i.a, .int .i64 i.b, .int .i64 0, .int .i64 2, .int .i64 0]) (by simp [results, Try.results74, go_sem]) rfl ⟨rfl, ?_⟩
    first | exact (((Kp.refl _).alloc _).alloc _).alloc _ | exact ((((Kp.refl _).alloc _).alloc _).alloc _).drew | exact (((((Kp.refl _).alloc _).alloc _).alloc _).drew).drew | (repeat' first | exact Kp.refl _ | apply Kp.drew | apply Kp.alloc)
set_option maxRecDepth 20000 in
set_option maxHeartbeats 4000000 in
theorem need_15 (w : World) (i : InsM) (h : i.op = 15) : Calls Try.prog 74 #[insV i] w fun e w' => e = .returned (.agg #[.int .i64 24, .int .i64 i.b, .int .i64 i.c, .int .i64 i.d, .int .i64 3, .int .i64 0]) ∧ Kp w w' := by
  have t7 : (i.op == 7) = false := by simp [h]
  have t11 : (i.op == 11) = false := by simp [h]
  have t13 : (i.op == 13) = false := by simp [h]
  have t14 : (i.op == 14) = false := by simp [h]
  have t15 : (i.op == 15) = true := by simp [h]
  have t16 : (i.op == 16) = false := by simp [h]
  have t17 : (i.op == 17) = false := by simp [h]
  have t19 : (i.op == 19) = false := by simp [h]
  have t23 : (i.op == 23) = false := by simp [h]
  have t20 : (i.op == 20) = false := by simp [h]
  have t28 : (i.op == 28) = false := by simp [h]
  have t31 : (i.op == 31) = false := by simp [h]
  clear h
  unfold insV
  go_enter Try.func74, Try.ntmps74
  go_upto_region 19 with fail
  go_region
  all_goals
    go_wp2
    refine bodyPost_ret (v := .agg #[.int .i64 24, .int .i64 i.b, .int .i64 i.c, .int .i64 i.d, .int .i64 3, .int .i64 0]) (by simp [results, Try.results74, go_sem]) rfl ⟨rfl, ?_⟩
    first | exact (((Kp.refl _).alloc _).alloc _).alloc _ | exact ((((Kp.refl _).alloc _).alloc _).alloc _).drew | exact (((((Kp.refl _).alloc _).alloc _).alloc _).drew).drew | (repeat' first | exact Kp.refl _ | apply Kp.drew | apply Kp.alloc)
set_option maxRecDepth 20000 in
set_option maxHeartbeats 4000000 in
theorem need_16 (w : World) (i : InsM) (h : i.op = 16) : Calls Try.prog 74 #[insV i] w fun e w' => e = .returned (.agg #[.int .i64 24, .int .i64 i.b, .int .i64 0, .int .i64 0, .int .i64 9, .int .i64 0]) ∧ Kp w w' := by
  have t7 : (i.op == 7) = false := by simp [h]
  have t11 : (i.op == 11) = false := by simp [h]
  have t13 : (i.op == 13) = false := by simp [h]
  have t14 : (i.op == 14) = false := by simp [h]
  have t15 : (i.op == 15) = false := by simp [h]
  have t16 : (i.op == 16) = true := by simp [h]
  have t17 : (i.op == 17) = false := by simp [h]
  have t19 : (i.op == 19) = false := by simp [h]
  have t23 : (i.op == 23) = false := by simp [h]
  have t20 : (i.op == 20) = false := by simp [h]
  have t28 : (i.op == 28) = false := by simp [h]
  have t31 : (i.op == 31) = false := by simp [h]
  clear h
  unfold insV
  go_enter Try.func74, Try.ntmps74
  all_goals
    go_wp2
    refine bodyPost_ret (v := .agg #[.int .i64 24, .int .i64 i.b, .int .i64 0, .int .i64 0, .int .i64 9, .int .i64 0]) (by simp [results, Try.results74, go_sem]) rfl ⟨rfl, ?_⟩
    first | exact (((Kp.refl _).alloc _).alloc _).alloc _ | exact ((((Kp.refl _).alloc _).alloc _).alloc _).drew | exact (((((Kp.refl _).alloc _).alloc _).alloc _).drew).drew | (repeat' first | exact Kp.refl _ | apply Kp.drew | apply Kp.alloc)
set_option maxRecDepth 20000 in
set_option maxHeartbeats 4000000 in
theorem need_19 (w : World) (i : InsM) (h : i.op = 19) : Calls Try.prog 74 #[insV i] w fun e w' => e = .returned (.agg #[.int .i64 24, .int .i64 i.b, .int .i64 0, .int .i64 0, .int .i64 6, .int .i64 0]) ∧ Kp w w' := by
  have t7 : (i.op == 7) = false := by simp [h]
  have t11 : (i.op == 11) = false := by simp [h]
  have t13 : (i.op == 13) = false := by simp [h]
  have t14 : (i.op == 14) = false := by simp [h]
  have t15 : (i.op == 15) = false := by simp [h]
  have t16 : (i.op == 16) = false := by simp [h]
  have t17 : (i.op == 17) = false := by simp [h]
  have t19 : (i.op == 19) = true := by simp [h]
  have t23 : (i.op == 23) = false := by simp [h]
  have t20 : (i.op == 20) = false := by simp [h]
  have t28 : (i.op == 28) = false := by simp [h]
  have t31 : (i.op == 31) = false := by simp [h]
  clear h
  unfold insV
  go_enter Try.func74, Try.ntmps74
  all_goals
    go_wp2
    refine bodyPost_ret (v := .agg #[.int .i64 24, .int .i64 i.b, .int .i64 0, .int .i64 0, .int .i64 6, .int .i64 0]) (by simp [results, Try.results74, go_sem]) rfl ⟨rfl, ?_⟩
    first | exact (((Kp.refl _).alloc _).alloc _).alloc _ | exact ((((Kp.refl _).alloc _).alloc _).alloc _).drew | exact (((((Kp.refl _).alloc _).alloc _).alloc _).drew).drew | (repeat' first | exact Kp.refl _ | apply Kp.drew | apply Kp.alloc)
set_option maxRecDepth 20000 in
set_option maxHeartbeats 4000000 in
theorem need_23 (w : World) (i : InsM) (h : i.op = 23) : Calls Try.prog 74 #[insV i] w fun e w' => e = .returned (.agg #[.int .i64 24, .int .i64 i.b, .int .i64 0, .int .i64 0, .int .i64 11, .int .i64 0]) ∧ Kp w w' := by
  have t7 : (i.op == 7) = false := by simp [h]
  have t11 : (i.op == 11) = false := by simp [h]
  have t13 : (i.op == 13) = false := by simp [h]
  have t14 : (i.op == 14) = false := by simp [h]
  have t15 : (i.op == 15) = false := by simp [h]
  have t16 : (i.op == 16) = false := by simp [h]
  have t17 : (i.op == 17) = false := by simp [h]
  have t19 : (i.op == 19) = false := by simp [h]
  have t23 : (i.op == 23) = true := by simp [h]
  have t20 : (i.op == 20) = false := by simp [h]
  have t28 : (i.op == 28) = false := by simp [h]
  have t31 : (i.op == 31) = false := by simp [h]
  clear h
  unfold insV
  go_enter Try.func74, Try.ntmps74
  all_goals
    go_wp2
    refine bodyPost_ret (v := .agg #[.int .i64 24, .int .i64 i.b, .int .i64 0, .int .i64 0, .int .i64 11, .int .i64 0]) (by simp [results, Try.results74, go_sem]) rfl ⟨rfl, ?_⟩
    first | exact (((Kp.refl _).alloc _).alloc _).alloc _ | exact ((((Kp.refl _).alloc _).alloc _).alloc _).drew | exact (((((Kp.refl _).alloc _).alloc _).alloc _).drew).drew | (repeat' first | exact Kp.refl _ | apply Kp.drew | apply Kp.alloc)
set_option maxRecDepth 20000 in
set_option maxHeartbeats 4000000 in
theorem need_20 (w : World) (i : InsM) (h : i.op = 20) : Calls Try.prog 74 #[insV i] w fun e w' => e = .returned (.agg #[.int .i64 24, .int .i64 i.a, .int .i64 0, .int .i64 0, .int .i64 6, .int .i64 0]) ∧ Kp w w' := by
  have t7 : (i.op == 7) = false := by simp [h]
  have t11 : (i.op == 11) = false := by simp [h]
  have t13 : (i.op == 13) = false := by simp [h]
  have t14 : (i.op == 14) = false := by simp [h]
  have t15 : (i.op == 15) = false := by simp [h]
  have t16 : (i.op == 16) = false := by simp [h]
  have t17 : (i.op == 17) = false := by simp [h]
  have t19 : (i.op == 19) = false := by simp [h]
  have t23 : (i.op == 23) = false := by simp [h]
  have t20 : (i.op == 20) = true := by simp [h]
  have t28 : (i.op == 28) = false := by simp [h]
  have t31 : (i.op == 31) = false := by simp [h]
  clear h
  unfold insV
  go_enter Try.func74, Try.ntmps74
  all_goals
    go_wp2
    refine bodyPost_ret (v := .agg #[.int .i64 24, .int .i64 i.a, .int .i64 0, .int .i64 0, .int .i64 6, .int .i64 0]) (by simp [results, Try.results74, go_sem]) rfl ⟨rfl, ?_⟩
    first | exact (((Kp.refl _).alloc _).alloc _).alloc _ | exact ((((Kp.refl _).alloc _).alloc _).alloc _).drew | exact (((((Kp.refl _).alloc _).alloc _).alloc _).drew).drew | (repeat' first | exact Kp.refl _ | apply Kp.drew | apply Kp.alloc)
set_option maxRecDepth 20000 in
set_option maxHeartbeats 4000000 in
theorem need_28 (w : World) (i : InsM) (h : i.op = 28) : Calls Try.prog 74 #[insV i] w fun e w' => e = .returned (.agg #[.int .i64 24, .int .i64 i.b, .int .i64 i.d, .int .i64 0, .int .i64 7, .int .i64 0]) ∧ Kp w w' := by
  have t7 : (i.op == 7) = false := by simp [h]
  have t11 : (i.op == 11) = false := by simp [h]
  have t13 : (i.op == 13) = false := by simp [h]
  have t14 : (i.op == 14) = false := by simp [h]
  have t15 : (i.op == 15) = false := by simp [h]
  have t16 : (i.op == 16) = false := by simp [h]
  have t17 : (i.op == 17) = false := by simp [h]
  have t19 : (i.op == 19) = false := by simp [h]
  have t23 : (i.op == 23) = false := by simp [h]
  have t20 : (i.op == 20) = false := by simp [h]
  have t28 : (i.op == 28) = true := by simp [h]
  have t31 : (i.op == 31) = false := by simp [h]
  clear h
  unfold insV
  go_enter Try.func74, Try.ntmps74
  go_upto_region 33 with fail
  go_region
  all_goals
    go_wp2
    refine bodyPost_ret (v := .agg #[.int .i64 24, .int .i64 i.b, .int .i64 i.d, .int .i64 0, .int .i64 7, .int .i64 0]) (by simp [results, Try.results74, go_sem]) rfl ⟨rfl, ?_⟩
    first | exact (((Kp.refl _).alloc _).alloc _).alloc _ | exact ((((Kp.refl _).alloc _).alloc _).alloc _).drew | exact (((((Kp.refl _).alloc _).alloc _).alloc _).drew).drew | (repeat' first | exact Kp.refl _ | apply Kp.drew | apply Kp.alloc)
set_option maxRecDepth 20000 in
set_option maxHeartbeats 4000000 in
theorem need_31 (w : World) (i : InsM) (h : i.op = 31) : Calls Try.prog 74 #[insV i] w fun e w' => e = .returned (.agg #[.int .i64 24, .int .i64 i.a, .int .i64 0, .int .i64 0, .int .i64 12, .int .i64 0]) ∧ Kp w w' := by
  have t7 : (i.op == 7) = false := by simp [h]
  have t11 : (i.op == 11) = false := by simp [h]
  have t13 : (i.op == 13) = false := by simp [h]
  have t14 : (i.op == 14) = false := by simp [h]
  have t15 : (i.op == 15) = false := by simp [h]
  have t16 : (i.op == 16) = false := by simp [h]
  have t17 : (i.op == 17) = false := by simp [h]
  have t19 : (i.op == 19) = false := by simp [h]
  have t23 : (i.op == 23) = false := by simp [h]
  have t20 : (i.op == 20) = false := by simp [h]
  have t28 : (i.op == 28) = false := by simp [h]
  have t31 : (i.op == 31) = true := by simp [h]
  clear h
  unfold insV
  go_enter Try.func74, Try.ntmps74
  all_goals
    go_wp2
    refine bodyPost_ret (v := .agg #[.int .i64 24, .int .i64 i.a, .int .i64 0, .int .i64 0, .int .i64 12, .int .i64 0]) (by simp [results, Try.results74, go_sem]) rfl ⟨rfl, ?_⟩
    first | exact (((Kp.refl _).alloc _).alloc _).alloc _ | exact ((((Kp.refl _).alloc _).alloc _).alloc _).drew | exact (((((Kp.refl _).alloc _).alloc _).alloc _).drew).drew | (repeat' first | exact Kp.refl _ | apply Kp.drew | apply Kp.alloc)
set_option maxRecDepth 20000 in
set_option maxHeartbeats 4000000 in
theorem need_7_4 (w : World) (i : InsM) (h : i.op = 7) (hd : i.d = 4) : Calls Try.prog 74 #[insV i] w fun e w' => e = .returned (.agg #[.int .i64 24, .int .i64 i.c, .int .i64 0, .int .i64 0, .int .i64 4, .int .i64 0]) ∧ Kp w w' := by
  have t7 : (i.op == 7) = true := by simp [h]
  have t11 : (i.op == 11) = false := by simp [h]
  have t13 : (i.op == 13) = false := by simp [h]
  have t14 : (i.op == 14) = false := by simp [h]
  have t15 : (i.op == 15) = false := by simp [h]
  have t16 : (i.op == 16) = false := by simp [h]
  have t17 : (i.op == 17) = false := by simp [h]
  have t19 : (i.op == 19) = false := by simp [h]
  have t23 : (i.op == 23) = false := by simp [h]
  have t20 : (i.op == 20) = false := by simp [h]
  have t28 : (i.op == 28) = false := by simp [h]
  have t31 : (i.op == 31) = false := by simp [h]
  have d4 : (i.d == 4) = true := by simp [hd]
  have d5 : (i.d == 5) = false := by simp [hd]
  have d6 : (i.d == 6) = false := by simp [hd]
  have d7 : (i.d == 7) = false := by simp [hd]
  clear h hd
  unfold insV
  go_enter Try.func74, Try.ntmps74
  all_goals
    go_wp2
    refine bodyPost_ret (v := .agg #[.int .i64 24, .int .i64 i.c, .int .i64 0, .int .i64 0, .int .i64 4, .int .i64 0]) (by simp [results, Try.results74, go_sem]) rfl ⟨rfl, ?_⟩
    first | exact (((Kp.refl _).alloc _).alloc _).alloc _ | exact ((((Kp.refl _).alloc _).alloc _).alloc _).drew | exact (((((Kp.refl _).alloc _).alloc _).alloc _).drew).drew | (repeat' first | exact Kp.refl _ | apply Kp.drew | apply Kp.alloc)
set_option maxRecDepth 20000 in
set_option maxHeartbeats 4000000 in
theorem need_7_5 (w : World) (i : InsM) (h : i.op = 7) (hd : i.d = 5) : Calls Try.prog 74 #[insV i] w fun e w' => e = .returned (.agg #[.int .i64 24, .int .i64 i.c, .int .i64 0, .int .i64 0, .int .i64 4, .int .i64 0]) ∧ Kp w w' := by
  have t7 : (i.op == 7) = true := by simp [h]
  have t11 : (i.op == 11) = false := by simp [h]
  have t13 : (i.op == 13) = false := by simp [h]
  have t14 : (i.op == 14) = false := by simp [h]
  have t15 : (i.op == 15) = false := by simp [h]
  have t16 : (i.op == 16) = false := by simp [h]
  have t17 : (i.op == 17) = false := by simp [h]
  have t19 : (i.op == 19) = false := by simp [h]
  have t23 : (i.op == 23) = false := by simp [h]
  have t20 : (i.op == 20) = false := by simp [h]
  have t28 : (i.op == 28) = false := by simp [h]
  have t31 : (i.op == 31) = false := by simp [h]
  have d4 : (i.d == 4) = false := by simp [hd]
  have d5 : (i.d == 5) = true := by simp [hd]
  have d6 : (i.d == 6) = false := by simp [hd]
  have d7 : (i.d == 7) = false := by simp [hd]
  clear h hd
  unfold insV
  go_enter Try.func74, Try.ntmps74
  all_goals
    go_wp2
    refine bodyPost_ret (v := .agg #[.int .i64 24, .int .i64 i.c, .int .i64 0, .int .i64 0, .int .i64 4, .int .i64 0]) (by simp [results, Try.results74, go_sem]) rfl ⟨rfl, ?_⟩
    first | exact (((Kp.refl _).alloc _).alloc _).alloc _ | exact ((((Kp.refl _).alloc _).alloc _).alloc _).drew | exact (((((Kp.refl _).alloc _).alloc _).alloc _).drew).drew | (repeat' first | exact Kp.refl _ | apply Kp.drew | apply Kp.alloc)
set_option maxRecDepth 20000 in
set_option maxHeartbeats 4000000 in
theorem need_7_6 (w : World) (i : InsM) (h : i.op = 7) (hd : i.d = 6) : Calls Try.prog 74 #[insV i] w fun e w' => e = .returned (.agg #[.int .i64 24, .int .i64 i.c, .int .i64 0, .int .i64 0, .int .i64 5, .int .i64 0]) ∧ Kp w w' := by
  have t7 : (i.op == 7) = true := by simp [h]
  have t11 : (i.op == 11) = false := by simp [h]
  have t13 : (i.op == 13) = false := by simp [h]
  have t14 : (i.op == 14) = false := by simp [h]
  have t15 : (i.op == 15) = false := by simp [h]
  have t16 : (i.op == 16) = false := by simp [h]
  have t17 : (i.op == 17) = false := by simp [h]
  have t19 : (i.op == 19) = false := by simp [h]
  have t23 : (i.op == 23) = false := by simp [h]
  have t20 : (i.op == 20) = false := by simp [h]
  have t28 : (i.op == 28) = false := by simp [h]
  have t31 : (i.op == 31) = false := by simp [h]
  have d4 : (i.d == 4) = false := by simp [hd]
  have d5 : (i.d == 5) = false := by simp [hd]
  have d6 : (i.d == 6) = true := by simp [hd]
  have d7 : (i.d == 7) = false := by simp [hd]
  clear h hd
  unfold insV
  go_enter Try.func74, Try.ntmps74
  all_goals
    go_wp2
    refine bodyPost_ret (v := .agg #[.int .i64 24, .int .i64 i.c, .int .i64 0, .int .i64 0, .int .i64 5, .int .i64 0]) (by simp [results, Try.results74, go_sem]) rfl ⟨rfl, ?_⟩
    first | exact (((Kp.refl _).alloc _).alloc _).alloc _ | exact ((((Kp.refl _).alloc _).alloc _).alloc _).drew | exact (((((Kp.refl _).alloc _).alloc _).alloc _).drew).drew | (repeat' first | exact Kp.refl _ | apply Kp.drew | apply Kp.alloc)
set_option maxRecDepth 20000 in
set_option maxHeartbeats 4000000 in
theorem need_7_7 (w : World) (i : InsM) (h : i.op = 7) (hd : i.d = 7) : Calls Try.prog 74 #[insV i] w fun e w' => e = .returned (.agg #[.int .i64 24, .int .i64 i.c, .int .i64 0, .int .i64 0, .int .i64 5, .int .i64 0]) ∧ Kp w w' := by
  have t7 : (i.op == 7) = true := by simp [h]
  have t11 : (i.op == 11) = false := by simp [h]
  have t13 : (i.op == 13) = false := by simp [h]
  have t14 : (i.op == 14) = false := by simp [h]
  have t15 : (i.op == 15) = false := by simp [h]
  have t16 : (i.op == 16) = false := by simp [h]
  have t17 : (i.op == 17) = false := by simp [h]
  have t19 : (i.op == 19) = false := by simp [h]
  have t23 : (i.op == 23) = false := by simp [h]
  have t20 : (i.op == 20) = false := by simp [h]
  have t28 : (i.op == 28) = false := by simp [h]
  have t31 : (i.op == 31) = false := by simp [h]
  have d4 : (i.d == 4) = false := by simp [hd]
  have d5 : (i.d == 5) = false := by simp [hd]
  have d6 : (i.d == 6) = false := by simp [hd]
  have d7 : (i.d == 7) = true := by simp [hd]
  clear h hd
  unfold insV
  go_enter Try.func74, Try.ntmps74
  all_goals
    go_wp2
    refine bodyPost_ret (v := .agg #[.int .i64 24, .int .i64 i.c, .int .i64 0, .int .i64 0, .int .i64 5, .int .i64 0]) (by simp [results, Try.results74, go_sem]) rfl ⟨rfl, ?_⟩
    first | exact (((Kp.refl _).alloc _).alloc _).alloc _ | exact ((((Kp.refl _).alloc _).alloc _).alloc _).drew | exact (((((Kp.refl _).alloc _).alloc _).alloc _).drew).drew | (repeat' first | exact Kp.refl _ | apply Kp.drew | apply Kp.alloc)
set_option maxRecDepth 20000 in
set_option maxHeartbeats 4000000 in
theorem need_7_n (w : World) (i : InsM) (h : i.op = 7) (h4 : ¬ i.d = 4) (h5 : ¬ i.d = 5) (h6 : ¬ i.d = 6) (h7 : ¬ i.d = 7) : Calls Try.prog 74 #[insV i] w fun e w' => e = .returned (.agg #[.int .i64 24, .int .i64 i.c, .int .i64 0, .int .i64 0, .int .i64 0, .int .i64 0]) ∧ Kp w w' := by
  have t7 : (i.op == 7) = true := by simp [h]
  have t11 : (i.op == 11) = false := by simp [h]
  have t13 : (i.op == 13) = false := by simp [h]
  have t14 : (i.op == 14) = false := by simp [h]
  have t15 : (i.op == 15) = false := by simp [h]
  have t16 : (i.op == 16) = false := by simp [h]
  have t17 : (i.op == 17) = false := by simp [h]
  have t19 : (i.op == 19) = false := by simp [h]
  have t23 : (i.op == 23) = false := by simp [h]
  have t20 : (i.op == 20) = false := by simp [h]
  have t28 : (i.op == 28) = false := by simp [h]
  have t31 : (i.op == 31) = false := by simp [h]
  have d4 : (i.d == 4) = false := by simp [h4]
  have d5 : (i.d == 5) = false := by simp [h5]
  have d6 : (i.d == 6) = false := by simp [h6]
  have d7 : (i.d == 7) = false := by simp [h7]
  clear h h4 h5 h6 h7
  unfold insV
  go_enter Try.func74, Try.ntmps74
  all_goals
    go_wp2
    refine bodyPost_ret (v := .agg #[.int .i64 24, .int .i64 i.c, .int .i64 0, .int .i64 0, .int .i64 0, .int .i64 0]) (by simp [results, Try.results74, go_sem]) rfl ⟨rfl, ?_⟩
    first | exact (((Kp.refl _).alloc _).alloc _).alloc _ | exact ((((Kp.refl _).alloc _).alloc _).alloc _).drew | exact (((((Kp.refl _).alloc _).alloc _).alloc _).drew).drew | (repeat' first | exact Kp.refl _ | apply Kp.drew | apply Kp.alloc)
set_option maxRecDepth 20000 in
set_option maxHeartbeats 4000000 in
theorem need_17_y (w : World) (i : InsM) (h : i.op = 17) (hc : 100 < i.c) : Calls Try.prog 74 #[insV i] w fun e w' => e = .returned (.agg #[.int .i64 24, .int .i64 i.c, .int .i64 0, .int .i64 0, .int .i64 10, .int .i64 0]) ∧ Kp w w' := by
  have t7 : (i.op == 7) = false := by simp [h]
  have t11 : (i.op == 11) = false := by simp [h]
  have t13 : (i.op == 13) = false := by simp [h]
  have t14 : (i.op == 14) = false := by simp [h]
  have t15 : (i.op == 15) = false := by simp [h]
  have t16 : (i.op == 16) = false := by simp [h]
  have t17 : (i.op == 17) = true := by simp [h]
  have t19 : (i.op == 19) = false := by simp [h]
  have t23 : (i.op == 23) = false := by simp [h]
  have t20 : (i.op == 20) = false := by simp [h]
  have t28 : (i.op == 28) = false := by simp [h]
  have t31 : (i.op == 31) = false := by simp [h]
  clear h
  unfold insV
  go_enter Try.func74, Try.ntmps74
  all_goals
    go_wp2
    refine bodyPost_ret (v := .agg #[.int .i64 24, .int .i64 i.c, .int .i64 0, .int .i64 0, .int .i64 10, .int .i64 0]) (by simp [results, Try.results74, go_sem]) rfl ⟨rfl, ?_⟩
    first | exact (((Kp.refl _).alloc _).alloc _).alloc _ | exact ((((Kp.refl _).alloc _).alloc _).alloc _).drew | exact (((((Kp.refl _).alloc _).alloc _).alloc _).drew).drew | (repeat' first | exact Kp.refl _ | apply Kp.drew | apply Kp.alloc)
set_option maxRecDepth 20000 in
set_option maxHeartbeats 4000000 in
theorem need_17_n (w : World) (i : InsM) (h : i.op = 17) (hc : ¬ 100 < i.c) : Calls Try.prog 74 #[insV i] w fun e w' => e = .returned (.agg #[.int .i64 24, .int .i64 0, .int .i64 0, .int .i64 0, .int .i64 0, .int .i64 0]) ∧ Kp w w' := by
  have t7 : (i.op == 7) = false := by simp [h]
  have t11 : (i.op == 11) = false := by simp [h]
  have t13 : (i.op == 13) = false := by simp [h]
  have t14 : (i.op == 14) = false := by simp [h]
  have t15 : (i.op == 15) = false := by simp [h]
  have t16 : (i.op == 16) = false := by simp [h]
  have t17 : (i.op == 17) = true := by simp [h]
  have t19 : (i.op == 19) = false := by simp [h]
  have t23 : (i.op == 23) = false := by simp [h]
  have t20 : (i.op == 20) = false := by simp [h]
  have t28 : (i.op == 28) = false := by simp [h]
  have t31 : (i.op == 31) = false := by simp [h]
  clear h
  unfold insV
  go_enter Try.func74, Try.ntmps74
  all_goals
    go_wp2
    refine bodyPost_ret (v := .agg #[.int .i64 24, .int .i64 0, .int .i64 0, .int .i64 0, .int .i64 0, .int .i64 0]) (by simp [results, Try.results74, go_sem]) rfl ⟨rfl, ?_⟩
    first | exact (((Kp.refl _).alloc _).alloc _).alloc _ | exact ((((Kp.refl _).alloc _).alloc _).alloc _).drew | exact (((((Kp.refl _).alloc _).alloc _).alloc _).drew).drew | (repeat' first | exact Kp.refl _ | apply Kp.drew | apply Kp.alloc)
set_option maxRecDepth 20000 in
set_option maxHeartbeats 4000000 in
theorem need_n (w : World) (i : InsM) (h7 : ¬ i.op = 7) (h11 : ¬ i.op = 11) (h13 : ¬ i.op = 13) (h14 : ¬ i.op = 14) (h15 : ¬ i.op = 15) (h16 : ¬ i.op = 16) (h17 : ¬ i.op = 17) (h19 : ¬ i.op = 19) (h23 : ¬ i.op = 23) (h20 : ¬ i.op = 20) (h28 : ¬ i.op = 28) (h31 : ¬ i.op = 31) : Calls Try.prog 74 #[insV i] w fun e w' => e = .returned (.agg #[.int .i64 24, .int .i64 0, .int .i64 0, .int .i64 0, .int .i64 0, .int .i64 0]) ∧ Kp w w' := by
  have t7 : (i.op == 7) = false := by simp [h7]
  have t11 : (i.op == 11) = false := by simp [h11]
  have t13 : (i.op == 13) = false := by simp [h13]
  have t14 : (i.op == 14) = false := by simp [h14]
  have t15 : (i.op == 15) = false := by simp [h15]
  have t16 : (i.op == 16) = false := by simp [h16]
  have t17 : (i.op == 17) = false := by simp [h17]
  have t19 : (i.op == 19) = false := by simp [h19]
  have t23 : (i.op == 23) = false := by simp [h23]
  have t20 : (i.op == 20) = false := by simp [h20]
  have t28 : (i.op == 28) = false := by simp [h28]
  have t31 : (i.op == 31) = false := by simp [h31]
  clear h7 h11 h13 h14 h15 h16 h17 h19 h23 h20 h28 h31
  unfold insV
  go_enter Try.func74, Try.ntmps74
  all_goals
    go_wp2
    refine bodyPost_ret (v := .agg #[.int .i64 24, .int .i64 0, .int .i64 0, .int .i64 0, .int .i64 0, .int .i64 0]) (by simp [results, Try.results74, go_sem]) rfl ⟨rfl, ?_⟩
    first | exact (((Kp.refl _).alloc _).alloc _).alloc _ | exact ((((Kp.refl _).alloc _).alloc _).alloc _).drew | exact (((((Kp.refl _).alloc _).alloc _).alloc _).drew).drew | (repeat' first | exact Kp.refl _ | apply Kp.drew | apply Kp.alloc)
theorem need_any (w : World) (i : InsM) : Calls Try.prog 74 #[insV i] w fun e w' => e = .returned (insV (needM i)) ∧ Kp w w' := by
  by_cases h7 : i.op = 7
  · by_cases d4 : i.d = 4
    · refine (need_7_4 w i h7 d4).mono fun e w' hh => ⟨by rw [hh.1]; unfold needM insV; rw [if_pos h7]; simp [d4], hh.2⟩
    by_cases d5 : i.d = 5
    · refine (need_7_5 w i h7 d5).mono fun e w' hh => ⟨by rw [hh.1]; unfold needM insV; rw [if_pos h7]; simp [d5], hh.2⟩
    by_cases d6 : i.d = 6
    · refine (need_7_6 w i h7 d6).mono fun e w' hh => ⟨by rw [hh.1]; unfold needM insV; rw [if_pos h7]; simp [d6], hh.2⟩
    by_cases d7 : i.d = 7
    · refine (need_7_7 w i h7 d7).mono fun e w' hh => ⟨by rw [hh.1]; unfold needM insV; rw [if_pos h7]; simp [d7], hh.2⟩
    refine (need_7_n w i h7 d4 d5 d6 d7).mono fun e w' hh => ⟨by rw [hh.1]; unfold needM insV; rw [if_pos h7]; simp [d4, d5, d6, d7], hh.2⟩
  by_cases h11 : i.op = 11
  · refine (need_11 w i h11).mono fun e w' hh => ⟨by rw [hh.1]; unfold needM insV; rw [if_neg h7, if_pos h11], hh.2⟩
  by_cases h13 : i.op = 13
  · refine (need_13 w i h13).mono fun e w' hh => ⟨by rw [hh.1]; unfold needM insV; rw [if_neg h7, if_neg h11, if_pos h13], hh.2⟩
  by_cases h14 : i.op = 14
  · refine (need_14 w i h14).mono fun e w' hh => ⟨by rw [hh.1]; unfold needM insV; rw [if_neg h7, if_neg h11, if_neg h13, if_pos h14], hh.2⟩
  by_cases h15 : i.op = 15
  · refine (need_15 w i h15).mono fun e w' hh => ⟨by rw [hh.1]; unfold needM insV; rw [if_neg h7, if_neg h11, if_neg h13, if_neg h14, if_pos h15], hh.2⟩
  by_cases h16 : i.op = 16
  · refine (need_16 w i h16).mono fun e w' hh => ⟨by rw [hh.1]; unfold needM insV; rw [if_neg h7, if_neg h11, if_neg h13, if_neg h14, if_neg h15, if_pos h16], hh.2⟩
  by_cases h17 : i.op = 17
  · by_cases hc : 100 < i.c
    · refine (need_17_y w i h17 hc).mono fun e w' hh => ⟨by rw [hh.1]; unfold needM insV; rw [if_neg h7, if_neg h11, if_neg h13, if_neg h14, if_neg h15, if_neg h16, if_pos h17]; rw [if_pos hc], hh.2⟩
    refine (need_17_n w i h17 hc).mono fun e w' hh => ⟨by rw [hh.1]; unfold needM insV; rw [if_neg h7, if_neg h11, if_neg h13, if_neg h14, if_neg h15, if_neg h16, if_pos h17]; rw [if_neg hc], hh.2⟩
  by_cases h19 : i.op = 19
  · refine (need_19 w i h19).mono fun e w' hh => ⟨by rw [hh.1]; unfold needM insV; rw [if_neg h7, if_neg h11, if_neg h13, if_neg h14, if_neg h15, if_neg h16, if_neg h17, if_pos h19], hh.2⟩
  by_cases h23 : i.op = 23
  · refine (need_23 w i h23).mono fun e w' hh => ⟨by rw [hh.1]; unfold needM insV; rw [if_neg h7, if_neg h11, if_neg h13, if_neg h14, if_neg h15, if_neg h16, if_neg h17, if_neg h19, if_pos h23], hh.2⟩
  by_cases h20 : i.op = 20
  · refine (need_20 w i h20).mono fun e w' hh => ⟨by rw [hh.1]; unfold needM insV; rw [if_neg h7, if_neg h11, if_neg h13, if_neg h14, if_neg h15, if_neg h16, if_neg h17, if_neg h19, if_neg h23, if_pos h20], hh.2⟩
  by_cases h28 : i.op = 28
  · refine (need_28 w i h28).mono fun e w' hh => ⟨by rw [hh.1]; unfold needM insV; rw [if_neg h7, if_neg h11, if_neg h13, if_neg h14, if_neg h15, if_neg h16, if_neg h17, if_neg h19, if_neg h23, if_neg h20, if_pos h28], hh.2⟩
  by_cases h31 : i.op = 31
  · refine (need_31 w i h31).mono fun e w' hh => ⟨by rw [hh.1]; unfold needM insV; rw [if_neg h7, if_neg h11, if_neg h13, if_neg h14, if_neg h15, if_neg h16, if_neg h17, if_neg h19, if_neg h23, if_neg h20, if_neg h28, if_pos h31], hh.2⟩
  refine (need_n w i h7 h11 h13 h14 h15 h16 h17 h19 h23 h20 h28 h31).mono fun e w' hh => ⟨by rw [hh.1]; unfold needM insV; rw [if_neg h7, if_neg h11, if_neg h13, if_neg h14, if_neg h15, if_neg h16, if_neg h17, if_neg h19, if_neg h23, if_neg h20, if_neg h28, if_neg h31], hh.2⟩
end Go.Proofs.Ytgonekmmbeedeaa.Sq
