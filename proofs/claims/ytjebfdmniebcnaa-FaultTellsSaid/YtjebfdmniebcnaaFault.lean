/-
  Package fault: its checks, and the helpers told and none of the laws. No condition.
-/
import Derived.Test.YtjebfdmniebcnaaWord
namespace Go.Proofs.Ytjebfdmniebcnaa
open Go.RowKit

/-- A Fault as a value. -/
def ft (k a b c : Int) : Value := .agg #[.int .i64 k, .int .i64 a, .int .i64 b, .int .i64 c]

@[go_sem] theorem field_fault0 (a b c d : Value) (w : World) : Sem.run Try.prog (Instr.field 39 (.agg #[a, b, c, d]) 0) w = .ok a w := by kernel_rfl
@[go_sem] theorem field_fault1 (a b c d : Value) (w : World) : Sem.run Try.prog (Instr.field 39 (.agg #[a, b, c, d]) 1) w = .ok b w := by kernel_rfl
@[go_sem] theorem field_fault2 (a b c d : Value) (w : World) : Sem.run Try.prog (Instr.field 39 (.agg #[a, b, c, d]) 2) w = .ok c w := by kernel_rfl
@[go_sem] theorem field_fault3 (a b c d : Value) (w : World) : Sem.run Try.prog (Instr.field 39 (.agg #[a, b, c, d]) 3) w = .ok d w := by kernel_rfl

set_option maxHeartbeats 400000 in
theorem index_in (i n : Int) (w : World) (h : 0 ≤ i) (h2 : i < n) :
    Calls Try.prog 27 #[.int .i64 i, .int .i64 n] w fun e w' => e = .returned (.agg #[.int .i64 0, .int .i64 0, .int .i64 0, .int .i64 0]) ∧ Kp w w' := by
  go_enter Try.func27, Try.ntmps27
  go_wp2
  exact bodyPost_ret (v := .agg #[.int .i64 0, .int .i64 0, .int .i64 0, .int .i64 0]) (by simp [results, Try.results27, go_sem]) rfl ⟨rfl, (Kp.refl _).alloc _⟩
set_option maxHeartbeats 400000 in
theorem index_out (i n : Int) (w : World) (h : ¬ (0 ≤ i ∧ i < n)) :
    Calls Try.prog 27 #[.int .i64 i, .int .i64 n] w fun e w' => e = .returned (.agg #[.int .i64 1, .int .i64 i, .int .i64 n, .int .i64 0]) ∧ Kp w w' := by
  by_cases h1 : 0 ≤ i <;> by_cases h2 : i < n <;> try (exfalso; exact h ⟨h1, h2⟩)
  all_goals
    clear h
    go_enter Try.func27, Try.ntmps27
    go_wp2
    exact bodyPost_ret (v := .agg #[.int .i64 1, .int .i64 i, .int .i64 n, .int .i64 0]) (by simp [results, Try.results27, go_sem]) rfl ⟨rfl, (Kp.refl _).alloc _⟩
set_option maxHeartbeats 400000 in
theorem bounds_in (lo hi n : Int) (w : World) (h : 0 ≤ lo) (h2 : lo ≤ hi) (h3 : hi ≤ n) :
    Calls Try.prog 26 #[.int .i64 lo, .int .i64 hi, .int .i64 n] w fun e w' => e = .returned (.agg #[.int .i64 0, .int .i64 0, .int .i64 0, .int .i64 0]) ∧ Kp w w' := by
  go_enter Try.func26, Try.ntmps26
  go_wp2
  exact bodyPost_ret (v := .agg #[.int .i64 0, .int .i64 0, .int .i64 0, .int .i64 0]) (by simp [results, Try.results26, go_sem]) rfl ⟨rfl, (Kp.refl _).alloc _⟩
set_option maxHeartbeats 400000 in
theorem bounds_out (lo hi n : Int) (w : World) (h : ¬ (0 ≤ lo ∧ lo ≤ hi ∧ hi ≤ n)) :
    Calls Try.prog 26 #[.int .i64 lo, .int .i64 hi, .int .i64 n] w fun e w' => e = .returned (.agg #[.int .i64 5, .int .i64 lo, .int .i64 hi, .int .i64 n]) ∧ Kp w w' := by
  by_cases h1 : 0 ≤ lo <;> by_cases h2 : lo ≤ hi <;> by_cases h3 : hi ≤ n <;> try (exfalso; exact h ⟨h1, h2, h3⟩)
  all_goals
    clear h
    go_enter Try.func26, Try.ntmps26
    go_wp2
    exact bodyPost_ret (v := .agg #[.int .i64 5, .int .i64 lo, .int .i64 hi, .int .i64 n]) (by simp [results, Try.results26, go_sem]) rfl ⟨rfl, (Kp.refl _).alloc _⟩
set_option maxHeartbeats 400000 in
theorem long_in (n m : Int) (w : World) (h : n ≤ m) :
    Calls Try.prog 28 #[.int .i64 n, .int .i64 m] w fun e w' => e = .returned (.agg #[.int .i64 0, .int .i64 0, .int .i64 0, .int .i64 0]) ∧ Kp w w' := by
  go_enter Try.func28, Try.ntmps28
  go_wp2
  exact bodyPost_ret (v := .agg #[.int .i64 0, .int .i64 0, .int .i64 0, .int .i64 0]) (by simp [results, Try.results28, go_sem]) rfl ⟨rfl, (Kp.refl _).alloc _⟩
set_option maxHeartbeats 400000 in
theorem long_out (n m : Int) (w : World) (h : ¬ n ≤ m) :
    Calls Try.prog 28 #[.int .i64 n, .int .i64 m] w fun e w' => e = .returned (.agg #[.int .i64 7, .int .i64 n, .int .i64 m, .int .i64 0]) ∧ Kp w w' := by
  go_enter Try.func28, Try.ntmps28
  go_wp2
  exact bodyPost_ret (v := .agg #[.int .i64 7, .int .i64 n, .int .i64 m, .int .i64 0]) (by simp [results, Try.results28, go_sem]) rfl ⟨rfl, (Kp.refl _).alloc _⟩

end Go.Proofs.Ytjebfdmniebcnaa
