/-
  The helpers told and none of the laws over fault. No condition.
-/
import Derived.Test.YtjebfdmniebcnaaFault
namespace Go.Proofs.Ytjebfdmniebcnaa
open Go.RowKit
set_option maxHeartbeats 400000 in
theorem none_yes (w : World) :
    Calls Try.prog 25 #[.agg #[.int .i64 0, .int .i64 0, .int .i64 0, .int .i64 0]] w fun e w' => e = .returned (.bool true) ∧ Kp w w' := by
  go_enter Try.func25, Try.ntmps25
  go_wp2
  go_ret
  exact ⟨rfl, (Kp.refl _).alloc _⟩
set_option maxHeartbeats 400000 in
theorem none_no (k a b c : Int) (w : World) (h : (k == 0) = false) :
    Calls Try.prog 25 #[.agg #[.int .i64 k, .int .i64 a, .int .i64 b, .int .i64 c]] w fun e w' => e = .returned (.bool false) ∧ Kp w w' := by
  go_enter Try.func25, Try.ntmps25
  go_wp2
  go_ret
  exact ⟨rfl, (Kp.refl _).alloc _⟩
set_option maxHeartbeats 400000 in
theorem told_any (w : World) :
    Calls Try.prog 24 #[] w fun e w' => e = .returned (.bool true) ∧ Kp w w' := by
  go_enter Try.func24, Try.ntmps24
  go_wp2_with (first | (go_at_call 27; refine (index_out _ _ _ (by omega)).mono ?_; rintro e w1 ⟨rfl, hk1⟩) | (go_at_call 26; refine (bounds_out _ _ _ _ (by omega)).mono ?_; rintro e w2 ⟨rfl, hk2⟩) | (go_at_call 28; refine (long_out _ _ _ (by omega)).mono ?_; rintro e w3 ⟨rfl, hk3⟩))
  go_ret
  exact ⟨rfl, (hk1.trans hk2).trans hk3⟩
end Go.Proofs.Ytjebfdmniebcnaa
