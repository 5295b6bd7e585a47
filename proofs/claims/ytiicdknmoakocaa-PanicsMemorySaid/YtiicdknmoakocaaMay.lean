/-
  value.May. No condition.
-/
import Derived.Test.YtiicdknmoakocaaValM
namespace Go.Proofs.Ytiicdknmoakocaa
open Go.RowKit

/-! ### May -/
def mayM (m : ValM) : Bool := m.k == 1 || m.k == 3 || m.k == 5
set_option maxRecDepth 20000 in
set_option maxHeartbeats 1000000 in
theorem may_any (v : Value) (m : ValM) (w : World) (h : RdVal w v m) : Calls Try.prog 63 #[v] w fun e w' => e = .returned (.bool (mayM m)) ∧ Kp w w' := by
  obtain ⟨lv, rfl, hlv, _, _, _, _⟩ := h
  clear hlv
  by_cases h1 : m.k = 1
  · have t1 : (m.k == 1) = true := by simp [h1]
    have HS := hid (show mayM m = true by unfold mayM; rw [t1]; rfl)
    clear h1
    go_enter Try.func63, Try.ntmps63
    go_wp2
    go_ret
    exact ⟨ret_bool HS.out.symm, (Kp.refl _).alloc _⟩
  · have t1 : (m.k == 1) = false := by simp [h1]
    by_cases h3 : m.k = 3
    · have t3 : (m.k == 3) = true := by simp [h3]
      have HS := hid (show mayM m = true by unfold mayM; rw [t1, t3]; rfl)
      clear h1 h3
      go_enter Try.func63, Try.ntmps63
      go_wp2
      go_ret
      exact ⟨ret_bool HS.out.symm, (Kp.refl _).alloc _⟩
    · have t3 : (m.k == 3) = false := by simp [h3]
      have HS := hid (show mayM m = (m.k == 5) by unfold mayM; rw [t1, t3]; rfl)
      clear h1 h3
      go_enter Try.func63, Try.ntmps63
      go_wp2
      go_ret
      exact ⟨ret_bool HS.out.symm, (Kp.refl _).alloc _⟩
end Go.Proofs.Ytiicdknmoakocaa
