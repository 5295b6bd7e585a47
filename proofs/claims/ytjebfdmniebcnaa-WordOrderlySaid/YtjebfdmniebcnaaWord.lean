/-
  Package word: what its functions answer. No condition.
-/
import Derived.Test.YtjebfdmniebcnaaBase
namespace Go.Proofs.Ytjebfdmniebcnaa
open Go.RowKit

/-! ### word.Do -/
def shV (op a b : Int) : Int := if 64 ≤ b then (if op = 7 ∧ a < 0 then -1 else 0) else if op = 6 then wrap64 (a * 2 ^ b.toNat) else a / 2 ^ b.toNat
def doV (op a b : Int) : Int :=
  if op = 1 then wrap64 (a + b) else if op = 2 then wrap64 (a - b) else if op = 3 then wrap64 (a * b)
  else if op = 4 then (if b = 0 then 0 else wrap64 (a.tdiv b)) else if op = 5 then (if b = 0 then 0 else a.tmod b)
  else if op = 6 ∨ op = 7 then (if b < 0 then 0 else shV op a b)
  else if op = 8 then bits .and .i64 a b else if op = 9 then bits .or .i64 a b else if op = 10 then bits .xor .i64 a b else 0
def doE (op b : Int) : Int :=
  if op = 1 ∨ op = 2 ∨ op = 3 ∨ op = 8 ∨ op = 9 ∨ op = 10 then 0
  else if op = 4 ∨ op = 5 then (if b = 0 then 20 else 0)
  else if op = 6 ∨ op = 7 then (if b < 0 then 21 else 0) else 13

set_option maxHeartbeats 400000 in
theorem shift_any (op a b : Int) (w : World) (hb : 0 ≤ b) (h : op = 6 ∨ op = 7) :
    Calls Try.prog 34 #[.int .i64 op, .int .i64 a, .int .i64 b] w fun e w' => e = .returned (.int .i64 (shV op a b)) ∧ w = w' := by
  rcases h with rfl | rfl <;> by_cases h64 : 64 ≤ b <;> by_cases ha : a < 0
  all_goals
    go_enter Try.func34, Try.ntmps34
    go_wp2
    go_ret
    exact ⟨ret_int (by unfold shV; split <;> simp <;> omega), rfl⟩

set_option maxHeartbeats 1000000 in
theorem do_any (op a b : Int) (w : World) :
    Calls Try.prog 20 #[.int .i64 op, .int .i64 a, .int .i64 b] w fun e w' => e = .returned (.tuple #[.int .i64 (doV op a b), .int .i64 (doE op b)]) ∧ w = w' := by
  by_cases hop : 1 ≤ op ∧ op ≤ 10
  · have : op = 1 ∨ op = 2 ∨ op = 3 ∨ op = 4 ∨ op = 5 ∨ op = 6 ∨ op = 7 ∨ op = 8 ∨ op = 9 ∨ op = 10 := by omega
    clear hop
    rcases this with rfl | rfl | rfl | rfl | rfl | rfl | rfl | rfl | rfl | rfl
    all_goals
      by_cases h0 : b = 0
      · subst h0
        go_enter Try.func20, Try.ntmps20
        go_wp2_with (go_at_call 34; refine (shift_any _ _ _ _ (by omega) (by omega)).mono ?_; rintro e w' ⟨rfl, rfl⟩)
        go_ret2
        exact ⟨ret_2int (by first | (simp [doV]; done) | simp [doV, wrap64]) (by simp [doE]), rfl⟩
      · by_cases hn : b < 0
        all_goals
          go_enter Try.func20, Try.ntmps20
          go_wp2_with (go_at_call 34; refine (shift_any _ _ _ _ (by omega) (by omega)).mono ?_; rintro e w' ⟨rfl, rfl⟩)
          go_ret2
          exact ⟨ret_2int (by simp [doV, h0, hn] <;> (intros; omega)) (by simp [doE, h0, hn]), rfl⟩
  · go_enter Try.func20, Try.ntmps20
    go_wp2
    go_ret2
    exact ⟨ret_2int (by unfold doV; repeat rw [if_neg (by omega)]) (by unfold doE; repeat rw [if_neg (by omega)]), rfl⟩

/-! ### word.Holds, order, Compare -/
def ordI (a b : Int) : Int := if a < b then -1 else if b < a then 1 else 0
def hlV (op c : Int) : Bool :=
  if op = 11 then c == 0 else if op = 12 then c != 0 else if op = 13 then decide (c < 0) else if op = 14 then decide (c ≤ 0)
  else if op = 15 then decide (0 < c) else if op = 16 then decide (0 ≤ c) else false
def hlE (op : Int) : Int := if 11 ≤ op ∧ op ≤ 16 then 0 else 13
theorem ordI_bd (a b : Int) : -1 ≤ ordI a b ∧ ordI a b ≤ 1 := by unfold ordI; split <;> (try split) <;> omega

set_option maxHeartbeats 400000 in
theorem order_any (a b : Int) (w : World) :
    Calls Try.prog 36 #[.int .i64 a, .int .i64 b] w fun e w' => e = .returned (.int .i64 (ordI a b)) ∧ w = w' := by
  by_cases h1 : a < b <;> by_cases h2 : b < a <;> try omega
  all_goals
    go_enter Try.func36, Try.ntmps36
    go_wp2
    go_ret
    exact ⟨ret_int (by unfold ordI; first | rw [if_pos (by omega)] | rw [if_neg (by omega), if_pos (by omega)] | rw [if_neg (by omega), if_neg (by omega)]), rfl⟩

set_option maxHeartbeats 1000000 in
theorem holds_in (op c : Int) (w : World) (h1 : -1 ≤ c) (h2 : c ≤ 1) :
    Calls Try.prog 35 #[.int .i64 op, .int .i64 c] w fun e w' => e = .returned (.tuple #[.bool (hlV op c), .int .i64 (hlE op)]) ∧ w = w' := by
  by_cases hop : 11 ≤ op ∧ op ≤ 16
  · have : op = 11 ∨ op = 12 ∨ op = 13 ∨ op = 14 ∨ op = 15 ∨ op = 16 := by omega
    clear hop
    rcases this with rfl | rfl | rfl | rfl | rfl | rfl
    all_goals
      have : c = -1 ∨ c = 0 ∨ c = 1 := by omega
      clear h1 h2
      rcases this with rfl | rfl | rfl
      all_goals
        go_enter Try.func35, Try.ntmps35
        go_wp2
        go_ret2
        exact ⟨ret_boolint (by simp [hlV]) (by simp [hlE]), rfl⟩
  · go_enter Try.func35, Try.ntmps35
    go_wp2
    go_ret2
    exact ⟨ret_boolint (by unfold hlV; repeat rw [if_neg (by omega)]) (by unfold hlE; rw [if_neg (by omega)]), rfl⟩

set_option maxHeartbeats 400000 in
theorem compare_any (op a b : Int) (w : World) :
    Calls Try.prog 33 #[.int .i64 op, .int .i64 a, .int .i64 b] w fun e w' => e = .returned (.tuple #[.bool (hlV op (ordI a b)), .int .i64 (hlE op)]) ∧ w = w' := by
  have hb := ordI_bd a b
  go_enter Try.func33, Try.ntmps33
  go_wp2_with (first | (go_at_call 36; refine (order_any _ _ _).mono ?_; rintro e w' ⟨rfl, rfl⟩) | (go_at_call 35; refine (holds_in _ _ _ (by omega) (by omega)).mono ?_; rintro e w' ⟨rfl, rfl⟩))
  go_ret2
  exact ⟨rfl, rfl⟩

end Go.Proofs.Ytjebfdmniebcnaa
