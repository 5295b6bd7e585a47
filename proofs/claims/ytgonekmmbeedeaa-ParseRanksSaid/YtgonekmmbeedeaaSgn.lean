/-
  Package word: the signs of operations. No condition.
-/
import Derived.Test.YtgonekmmbeedeaaBase
namespace Go.Proofs.Ytgonekmmbeedeaa
open Go.RowKit

def sgL : List (List UInt8) := [[], [43], [45], [42], [47], [37], [60, 60], [62, 62], [38], [124], [94], [61, 61], [33, 61], [60], [60, 61], [62], [62, 61]]
def sgS (k : Nat) : ByteArray := ⟨(sgL.getD k []).toArray⟩
/-- the array of all signs -/
def sgR : Array Value := #[.string ⟨#[]⟩, .string ⟨#[43]⟩, .string ⟨#[45]⟩, .string ⟨#[42]⟩, .string ⟨#[47]⟩, .string ⟨#[37]⟩, .string ⟨#[60, 60]⟩, .string ⟨#[62, 62]⟩, .string ⟨#[38]⟩, .string ⟨#[124]⟩, .string ⟨#[94]⟩, .string ⟨#[61, 61]⟩, .string ⟨#[33, 61]⟩, .string ⟨#[60]⟩, .string ⟨#[60, 61]⟩, .string ⟨#[62]⟩, .string ⟨#[62, 61]⟩]
def sgA : Value := .agg sgR
theorem sg_at (k : Nat) (hk : k < 17) : sgR[k]? = some (.string (sgS k)) := by
  have h : k = 0 ∨ k = 1 ∨ k = 2 ∨ k = 3 ∨ k = 4 ∨ k = 5 ∨ k = 6 ∨ k = 7 ∨ k = 8 ∨ k = 9 ∨ k = 10 ∨ k = 11 ∨ k = 12 ∨ k = 13 ∨ k = 14 ∨ k = 15 ∨ k = 16 := by omega
  rcases h with rfl | rfl | rfl | rfl | rfl | rfl | rfl | rfl | rfl | rfl | rfl | rfl | rfl | rfl | rfl | rfl | rfl <;> rfl
theorem sg_index (k : Nat) (hk : k < 17) (w : World) : Sem.run Try.prog (Instr.index 95 sgA (.int .i64 k)) w = .ok (.string (sgS k)) w := by
  have hi : (Try.prog.info? 9).map (·.size) = some 1 := by kernel_rfl
  cases h : Try.prog.info? 9 with
  | none => rw [h] at hi; cases hi
  | some i =>
    rw [h] at hi
    exact run_index_arr Try.underlying95 (by unfold Program.plainKey; rw [Try.underlying9]) h (by unfold Program.cellsOf; rw [h]; simpa using hi) sgR k hk _ (sg_at k hk) w
theorem sgL_ne : ∀ i, i < 17 → ∀ j, j < 17 → i ≠ j → sgL.getD i [] ≠ sgL.getD j [] := by decide +kernel
theorem sg_ne (i j : Nat) (hi : i < 17) (hj : j < 17) (h : i ≠ j) : ((sgS i).toList == (sgS j).toList) = false := by
  have := sgL_ne i hi j hj h
  unfold sgS; rw [toList_mk, toList_mk]; simpa using this
set_option maxHeartbeats 400000 in
theorem signs_any (w : World) :
    Calls Try.prog 43 #[] w fun e w' => e = .returned sgA ∧ Kp w w' := by
  go_enter Try.func43, Try.ntmps43
  go_wp2
  exact bodyPost_ret (v := sgA) (by simp [results, Try.results43, go_sem, sgA, sgR]) rfl ⟨rfl, (Kp.refl _).alloc _⟩
set_option maxHeartbeats 400000 in
theorem sign_in (k : Nat) (w : World) (h1 : 1 ≤ k) (h2 : k ≤ 16) :
    Calls Try.prog 24 #[.int .i64 k] w fun e w' => e = .returned (.tuple #[.string (sgS k), .int .i64 0]) ∧ Kp w w' := by
  have hi := sg_index k (by omega)
  go_enter Try.func24, Try.ntmps24
  go_wp2_with (go_at_call 43; refine (signs_any _).mono ?_; rintro e w1 ⟨rfl, hk1⟩)
  go_ret2
  exact ⟨rfl, hk1⟩
end Go.Proofs.Ytgonekmmbeedeaa
