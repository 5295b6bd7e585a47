/-
  The helpers of the laws over word: do, holds, awake, spot. No condition.
-/
import Derived.Test.YtjebfdmniebcnaaWord
namespace Go.Proofs.Ytjebfdmniebcnaa
open Go.RowKit

/-! ### the law's own helpers over word -/
theorem doV_zero (op a b : Int) (h : doE op b ≠ 0) : doV op a b = 0 := by
  unfold doE at h; unfold doV
  split at h
  · exact absurd rfl h
  · rename_i h1
    split at h
    · rename_i h2
      split at h
      · subst_vars; rcases h2 with rfl | rfl <;> simp
      · exact absurd rfl h
    · rename_i h2
      split at h
      · rename_i h3
        split at h
        · rename_i h4; rcases h3 with rfl | rfl <;> simp [h4]
        · exact absurd rfl h
      · rename_i h3
        repeat rw [if_neg (by omega)]
set_option maxHeartbeats 400000 in
theorem kdo_any (op a b : Int) (w : World) :
    Calls Try.prog 18 #[.int .i64 op, .int .i64 a, .int .i64 b] w fun e w' => e = .returned (.int .i64 (doV op a b)) ∧ w = w' := by
  by_cases h : doE op b = 0
  · have h' : (doE op b == 0) = true := by simp [h]
    have h'' : (doE op b != 0) = false := by simp [h]
    clear h
    go_enter Try.func18, Try.ntmps18
    go_wp2_with (go_at_call 20; refine (do_any _ _ _ _).mono ?_; rintro e w' ⟨rfl, rfl⟩)
    go_ret
    exact ⟨rfl, rfl⟩
  · have h' : (doE op b == 0) = false := by simp [h]
    have h'' : (doE op b != 0) = true := by simp [h]
    have HZ := hid (doV_zero op a b h)
    clear h
    go_enter Try.func18, Try.ntmps18
    go_wp2_with (go_at_call 20; refine (do_any _ _ _ _).mono ?_; rintro e w' ⟨rfl, rfl⟩)
    go_ret
    exact ⟨ret_int HZ.out.symm, rfl⟩
set_option maxHeartbeats 400000 in
theorem awake_any (w : World) :
    Calls Try.prog 19 #[] w fun e w' => e = .returned (.bool true) ∧ w = w' := by
  have h1 : doV 1 2 3 = 5 := by simp [doV, wrap64]
  have h2 : doE 1 3 = 0 := by simp [doE]
  have h3 : hlV 13 (ordI 2 3) = true := by simp [hlV, ordI]
  have h4 : hlE 13 = 0 := by simp [hlE]
  go_enter Try.func19, Try.ntmps19
  go_wp2_with (first | (go_at_call 20; refine (do_any _ _ _ _).mono ?_; rintro e w' ⟨rfl, rfl⟩) | (go_at_call 33; refine (compare_any _ _ _ _).mono ?_; rintro e w' ⟨rfl, rfl⟩))
  go_ret
  exact ⟨rfl, rfl⟩
def khV (op a b : Int) : Bool := hlV op (ordI a b)
theorem hlV_none (op c : Int) (h : hlE op ≠ 0) : hlV op c = false := by
  unfold hlE at h; split at h
  · exact absurd rfl h
  · unfold hlV; repeat rw [if_neg (by omega)]
set_option maxHeartbeats 400000 in
theorem kholds_any (op a b : Int) (w : World) :
    Calls Try.prog 17 #[.int .i64 op, .int .i64 a, .int .i64 b] w fun e w' => e = .returned (.bool (khV op a b)) ∧ w = w' := by
  by_cases h : hlE op = 0
  · have h' : (hlE op == 0) = true := by simp [h]
    clear h
    cases hx : hlV op (ordI a b)
    all_goals
      go_enter Try.func17, Try.ntmps17
      go_wp2_with (go_at_call 33; refine (compare_any _ _ _ _).mono ?_; rintro e w' ⟨rfl, rfl⟩)
      go_ret
      exact ⟨ret_bool (by simp [khV, hx]), rfl⟩
  · have hx := hlV_none op (ordI a b) h
    clear h
    go_enter Try.func17, Try.ntmps17
    go_wp2_with (go_at_call 33; refine (compare_any _ _ _ _).mono ?_; rintro e w' ⟨rfl, rfl⟩)
    go_ret
    exact ⟨ret_bool (by simp [khV, hx]), rfl⟩
def spotV (v n : Int) : Int := if v.tmod n < 0 then v.tmod n + n else v.tmod n

end Go.Proofs.Ytjebfdmniebcnaa
