/-
  spot, the laws' own counting round; and sums that wrap. No condition.
-/
import Derived.Test.YtgonekmmbeedeaaBase
namespace Go.Proofs.Ytgonekmmbeedeaa
open Go.RowKit

def spotV (v n : Int) : Int := if v.tmod n < 0 then v.tmod n + n else v.tmod n
theorem tmod_facts (a b : Int) (hb : b ≠ 0) : b * a.tdiv b + a.tmod b = a ∧ (0 ≤ a → 0 ≤ a.tmod b ∧ (a.tmod b < b ∨ a.tmod b < -b)) ∧ (a ≤ 0 → a.tmod b ≤ 0 ∧ (-b < a.tmod b ∨ b < a.tmod b)) := by
  refine ⟨Int.mul_tdiv_add_tmod a b, fun h => ?_, fun h => ?_⟩
  · rw [Int.tmod_eq_emod_of_nonneg h]
    have h1 := Int.emod_nonneg a hb
    rcases Int.lt_or_gt_of_ne hb with h2 | h2
    · have := Int.emod_lt_of_neg a h2; omega
    · have := Int.emod_lt_of_pos a h2; omega
  · have e : a.tmod b = -((-a).tmod b) := by rw [Int.neg_tmod]; omega
    have h' : 0 ≤ -a := by omega
    rw [e, Int.tmod_eq_emod_of_nonneg h']
    have h1 := Int.emod_nonneg (-a) hb
    rcases Int.lt_or_gt_of_ne hb with h2 | h2
    · have := Int.emod_lt_of_neg (-a) h2; omega
    · have := Int.emod_lt_of_pos (-a) h2; omega
theorem spotV_bd (v n : Int) (h : 0 < n) : 0 ≤ spotV v n ∧ spotV v n < n := by
  have := tmod_facts v n (by omega); unfold spotV; split <;> omega
set_option maxHeartbeats 400000 in
theorem spot_any (v n : Int) (w : World) (h : 0 < n) (h2 : n ≤ 9223372036854775807) :
    Calls Try.prog 23 #[.int .i64 v, .int .i64 n] w fun e w' => e = .returned (.int .i64 (spotV v n)) ∧ w = w' := by
  have ht := tmod_facts v n (by omega)
  have hn : (n == 0) = false := by simp; omega
  obtain ⟨t, hT⟩ : ∃ t, t = v.tmod n := ⟨_, rfl⟩
  have h0 : 0 ≤ v ∨ v ≤ 0 := by omega
  have hb : -n ≤ v.tmod n ∧ v.tmod n ≤ n := by omega
  clear ht h0
  by_cases hs : v.tmod n < 0
  all_goals
    go_enter Try.func23, Try.ntmps23
    go_wp2
    go_ret
    exact ⟨ret_int (by simp [spotV] <;> omega), rfl⟩
theorem w64_add (a b : Int) : wrap64 (wrap64 a + b) = wrap64 (a + b) := by unfold wrap64; omega
theorem w64_add' (a b : Int) : wrap64 (a + wrap64 b) = wrap64 (a + b) := by unfold wrap64; omega
theorem w64_sub (a b : Int) : wrap64 (wrap64 a - b) = wrap64 (a - b) := by unfold wrap64; omega
theorem w64_cong (a b : Int) (h : a % 18446744073709551616 = b % 18446744073709551616) : wrap64 a = wrap64 b := by unfold wrap64; omega
theorem w64_mod (a : Int) : wrap64 a % 18446744073709551616 = a % 18446744073709551616 := by unfold wrap64; omega
theorem w64_mul (a b : Int) : wrap64 (wrap64 a * b) = wrap64 (a * b) := w64_cong _ _ (by rw [Int.mul_emod, w64_mod, ← Int.mul_emod])
theorem w64_mul' (a b : Int) : wrap64 (a * wrap64 b) = wrap64 (a * b) := w64_cong _ _ (by rw [Int.mul_emod, w64_mod, ← Int.mul_emod])
theorem w64_id (a : Int) (h : (Lit.int .i64 a).wf = true) : wrap64 a = a := IntWalk.wrap64_in a (bounds_i64 h)
theorem w64_bd (a : Int) : -9223372036854775808 ≤ wrap64 a ∧ wrap64 a ≤ 9223372036854775807 := by unfold wrap64; omega

end Go.Proofs.Ytgonekmmbeedeaa
