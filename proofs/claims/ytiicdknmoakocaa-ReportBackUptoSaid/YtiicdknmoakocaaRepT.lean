/-
  Package report: Text. Condition: the text lies within the reach.
-/
import Derived.Test.YtiicdknmoakocaaRepM
import Derived.Test.YtiicdknmoakocaaText
namespace Go.Proofs.Ytiicdknmoakocaa
open Go.RowKit
set_option linter.unusedVariables false
set_option linter.unusedSimpArgs false

/-- How a panic's value is told. -/
def rtextM (k n : Int) (s : ByteArray) : List UInt8 := if k = 1 then Lib.itoa n else if k = 3 then 34 :: (escs (s.data.toList.map (mendB [10, 9])) ++ [34]) else if k = 5 then s.data.toList.map (mendB []) else [63]
set_option maxRecDepth 20000 in
set_option maxHeartbeats 4000000 in
theorem rtext_any (k n : Int) (s : ByteArray) (A : Option Addr) (m c : Nat) (hn : okI n) (hs : s.size ≤ 140737488351232) (w : World) :
    Calls Try.prog 36 #[.agg #[.int .i64 k, .int .i64 n, .string s, .slice A m c]] w fun e w' => e = .returned (.string ⟨(rtextM k n s).toArray⟩) ∧ Kp w w' := by
  have HKA := hid (show Kp w (w.alloc (.cells #[.int .i64 k, .int .i64 n, .string s, .slice A m c] 25)) from (Kp.refl _).alloc _)
  by_cases h1 : k = 1
  · have t1 : (k == 1) = true := by simp [h1]
    have HR := hid (show rtextM k n s = Lib.itoa n by unfold rtextM; rw [if_pos h1])
    have HW := fun w => text_any n w hn
    rw [← HR.out] at HW
    generalize rtextM k n s = R at HW ⊢
    clear h1 HR
    go_enter Try.func36, Try.ntmps36
    go_wp2_with (go_at_call 67; go_must (refine (HW _).mono ?_); rintro e w9 ⟨rfl, hk9⟩)
    go_ret
    exact ⟨rfl, HKA.out.trans hk9⟩
  · have t1 : (k == 1) = false := by rw [beq_eq_false_iff_ne]; exact h1
    by_cases h3 : k = 3
    · have t3 : (k == 3) = true := by simp [h3]
      have HR := hid (show rtextM k n s = 34 :: (escs (s.data.toList.map (mendB [10, 9])) ++ [34]) by unfold rtextM; rw [if_neg h1, if_pos h3])
      have HW := fun w => quoted_any s hs w
      rw [← HR.out] at HW
      generalize rtextM k n s = R at HW ⊢
      clear h1 h3 HR
      go_enter Try.func36, Try.ntmps36
      go_wp2_with (go_at_call 68; go_must (refine (HW _).mono ?_); rintro e w9 ⟨rfl, hk9⟩)
      go_ret
      exact ⟨rfl, HKA.out.trans hk9⟩
    · have t3 : (k == 3) = false := by rw [beq_eq_false_iff_ne]; exact h3
      by_cases h5 : k = 5
      · have t5 : (k == 5) = true := by simp [h5]
        have HR := hid (show rtextM k n s = s.data.toList.map (mendB []) by unfold rtextM; rw [if_neg h1, if_neg h3, if_pos h5])
        have HW := fun w => mend_any s ⟨#[]⟩ hs w
        have e0 : (⟨#[]⟩ : ByteArray).data.toList = [] := rfl
        rw [e0, ← HR.out] at HW
        generalize rtextM k n s = R at HW ⊢
        clear h1 h3 h5 HR e0
        go_enter Try.func36, Try.ntmps36
        go_wp2_with (go_at_call 69; go_must (refine (HW _).mono ?_); rintro e w9 ⟨rfl, hk9⟩)
        go_ret
        exact ⟨rfl, HKA.out.trans hk9⟩
      · have t5 : (k == 5) = false := by rw [beq_eq_false_iff_ne]; exact h5
        have HR := hid (show rtextM k n s = [63] by unfold rtextM; rw [if_neg h1, if_neg h3, if_neg h5])
        clear h1 h3 h5
        go_enter Try.func36, Try.ntmps36
        go_wp2
        go_ret
        exact ⟨by rw [HR.out]; rfl, HKA.out⟩
theorem rtext_len (k n : Int) (s : ByteArray) (hn : okI n) : (rtextM k n s).length ≤ 2 * s.size + 22 := by
  have hs : s.data.toList.length = s.size := by rw [Array.length_toList]; rfl
  unfold rtextM
  split
  · have : (Lib.itoa n).length ≤ 20 := by
      unfold Lib.itoa
      have h1 := dec_len 18 n.natAbs (by unfold okI at hn; omega)
      have h2 : n.natAbs < 10 ^ 19 := by unfold okI at hn; omega
      split
      · rw [List.length_cons]; omega
      · have h3 := dec_len 18 n.toNat (by unfold okI at hn; omega)
        omega
    omega
  · split
    · have := escs_len (s.data.toList.map (mendB [10, 9]))
      rw [List.length_map, hs] at this
      rw [List.length_cons, List.length_append, List.length_singleton]; omega
    · split
      · rw [List.length_map, hs]; omega
      · simp
end Go.Proofs.Ytiicdknmoakocaa
