/-
  Package defers: masks. No condition.
-/
import Derived.Test.YtmcidhjcimjeiaaBase
import Derived.Test.YtmcidhjcimjeiaaShelf
namespace Go.Proofs.Ytmcidhjcimjeiaa
open Go.RowKit

theorem bit_or : ∀ m, m < 256 → ∀ k, k < 8 → bits .or .i64 (m : Nat) (wrap64 (2 ^ k)) = ((m ||| 2 ^ k : Nat) : Int) := by decide +kernel
theorem bit_not : ∀ m, m < 256 → ∀ k, k < 8 → bits .andNot .i64 (m : Nat) (wrap64 (2 ^ k)) = ((m &&& (255 - 2 ^ k) : Nat) : Int) := by decide +kernel
theorem bit_is : ∀ m, m < 256 → ∀ k, k < 8 → bits .and .i64 ((m : Nat) / 2 ^ k : Int) 1 = ((m / 2 ^ k % 2 : Nat) : Int) := by decide +kernel

def right (m : Int) : Bool := decide (0 ≤ m ∧ m < 256)
set_option maxHeartbeats 400000 in
theorem right_yes (m : Int) (w : World) (h : 0 ≤ m ∧ m < 256) :
    Calls Try.prog 44 #[.int .i64 m] w fun e w' => e = .returned (.bool true) ∧ w = w' := by
  obtain ⟨h1, h2⟩ := h
  go_enter Try.func44, Try.ntmps44
  go_wp2
  go_ret
  exact ⟨rfl, rfl⟩
set_option maxHeartbeats 400000 in
theorem right_no (m : Int) (w : World) (h : ¬ (0 ≤ m ∧ m < 256)) :
    Calls Try.prog 44 #[.int .i64 m] w fun e w' => e = .returned (.bool false) ∧ w = w' := by
  by_cases h1 : 0 ≤ m <;> by_cases h2 : m < 256 <;> try (exfalso; exact h ⟨h1, h2⟩)
  all_goals
    clear h
    go_enter Try.func44, Try.ntmps44
    go_wp2
    go_ret
    exact ⟨rfl, rfl⟩
set_option maxHeartbeats 400000 in
theorem set_in (m k : Nat) (w : World) (hm : m < 256) (hk : k < 8) :
    Calls Try.prog 21 #[.int .i64 m, .int .i64 k] w fun e w' => e = .returned (.tuple #[.int .i64 ((m ||| 2 ^ k : Nat) : Int), .int .i64 0]) ∧ w = w' := by
  have H := hid (bit_or m hm k hk)
  go_enter Try.func21, Try.ntmps21
  go_wp2_with (go_at_call 44; refine (right_yes _ _ (by omega)).mono ?_; rintro e w' ⟨rfl, rfl⟩)
  go_ret2
  exact ⟨ret_2int (by simpa using H.out) rfl, rfl⟩
set_option maxHeartbeats 400000 in
theorem set_out (m k : Int) (w : World) (h : ¬ (0 ≤ m ∧ m < 256 ∧ 0 ≤ k ∧ k < 8)) :
    Calls Try.prog 21 #[.int .i64 m, .int .i64 k] w fun e w' => e = .returned (.tuple #[.int .i64 0, .int .i64 14]) ∧ w = w' := by
  by_cases hm : 0 ≤ m ∧ m < 256
  · by_cases h1 : 0 ≤ k <;> by_cases h2 : k < 8 <;> try (exfalso; exact h ⟨hm.1, hm.2, h1, h2⟩)
    all_goals
      clear h
      go_enter Try.func21, Try.ntmps21
      go_wp2_with (go_at_call 44; refine (right_yes _ _ hm).mono ?_; rintro e w' ⟨rfl, rfl⟩)
      go_ret2
      exact ⟨rfl, rfl⟩
  · clear h
    go_enter Try.func21, Try.ntmps21
    go_wp2_with (go_at_call 44; refine (right_no _ _ hm).mono ?_; rintro e w' ⟨rfl, rfl⟩)
    go_ret2
    exact ⟨rfl, rfl⟩
set_option maxHeartbeats 400000 in
theorem top_in (m : Nat) (w : World) (hm : m < 256) (h0 : 0 < m) :
    Calls Try.prog 22 #[.int .i64 m] w fun e w' => e = .returned (.tuple #[.int .i64 ((Lib.bitLen m : Int) - 1), .bool true]) ∧ w = w' := by
  have hz : ((m : Int) == 0) = false := by simp; omega
  have hb : (0 : Int) ≤ (Lib.bitLen m : Int) ∧ (Lib.bitLen m : Int) ≤ 64 := by
    refine ⟨by omega, ?_⟩
    have : ∀ m, m < 256 → Lib.bitLen m ≤ 64 := by decide +kernel
    have := this m hm; omega
  go_enter Try.func22, Try.ntmps22
  go_wp2_with (first | (go_at_call 44; refine (right_yes _ _ (by omega)).mono ?_; rintro e w' ⟨rfl, rfl⟩) | (go_at_call 45; refine (Try.bits_Len _ _ (by omega) (by omega)).mono ?_; rintro e w' ⟨rfl, rfl⟩))
  go_ret2
  exact ⟨rfl, rfl⟩
set_option maxHeartbeats 400000 in
theorem top_zero (w : World) :
    Calls Try.prog 22 #[.int .i64 0] w fun e w' => e = .returned (.tuple #[.int .i64 0, .bool false]) ∧ w = w' := by
  go_enter Try.func22, Try.ntmps22
  go_wp2_with (go_at_call 44; refine (right_yes _ _ (by omega)).mono ?_; rintro e w' ⟨rfl, rfl⟩)
  go_ret2
  exact ⟨rfl, rfl⟩
set_option maxHeartbeats 400000 in
theorem top_out (m : Int) (w : World) (h : ¬ (0 ≤ m ∧ m < 256)) :
    Calls Try.prog 22 #[.int .i64 m] w fun e w' => e = .returned (.tuple #[.int .i64 0, .bool false]) ∧ w = w' := by
  go_enter Try.func22, Try.ntmps22
  go_wp2_with (go_at_call 44; refine (right_no _ _ h).mono ?_; rintro e w' ⟨rfl, rfl⟩)
  go_ret2
  exact ⟨rfl, rfl⟩
set_option maxHeartbeats 400000 in
theorem drop_in (m k : Nat) (w : World) (hm : m < 256) (hk : k < 8) (hb : m / 2 ^ k % 2 = 1) :
    Calls Try.prog 23 #[.int .i64 m, .int .i64 k] w fun e w' => e = .returned (.tuple #[.int .i64 ((m &&& (255 - 2 ^ k) : Nat) : Int), .int .i64 0]) ∧ w = w' := by
  have H := hid (bit_not m hm k hk)
  have hi := bit_is m hm k hk
  rw [hb] at hi
  have hi' : (bits .and .i64 ((m : Int) / 2 ^ k) 1 == 0) = false := by rw [hi]; rfl
  clear hi
  go_enter Try.func23, Try.ntmps23
  go_wp2_with (go_at_call 44; refine (right_yes _ _ (by omega)).mono ?_; rintro e w' ⟨rfl, rfl⟩)
  go_ret2
  exact ⟨ret_2int (by simpa using H.out) rfl, rfl⟩
set_option maxHeartbeats 400000 in
theorem drop_none (m k : Nat) (w : World) (hm : m < 256) (hk : k < 8) (hb : m / 2 ^ k % 2 = 0) :
    Calls Try.prog 23 #[.int .i64 m, .int .i64 k] w fun e w' => e = .returned (.tuple #[.int .i64 0, .int .i64 16]) ∧ w = w' := by
  have hi := bit_is m hm k hk
  rw [hb] at hi
  have hi' : (bits .and .i64 ((m : Int) / 2 ^ k) 1 == 0) = true := by rw [hi]; rfl
  clear hi
  go_enter Try.func23, Try.ntmps23
  go_wp2_with (go_at_call 44; refine (right_yes _ _ (by omega)).mono ?_; rintro e w' ⟨rfl, rfl⟩)
  go_ret2
  exact ⟨rfl, rfl⟩
set_option maxHeartbeats 400000 in
theorem drop_out (m k : Int) (w : World) (h : ¬ (0 ≤ m ∧ m < 256 ∧ 0 ≤ k ∧ k < 8)) :
    Calls Try.prog 23 #[.int .i64 m, .int .i64 k] w fun e w' => e = .returned (.tuple #[.int .i64 0, .int .i64 14]) ∧ w = w' := by
  by_cases hm : 0 ≤ m ∧ m < 256
  · by_cases h1 : 0 ≤ k <;> by_cases h2 : k < 8 <;> try (exfalso; exact h ⟨hm.1, hm.2, h1, h2⟩)
    all_goals
      clear h
      go_enter Try.func23, Try.ntmps23
      go_wp2_with (go_at_call 44; refine (right_yes _ _ hm).mono ?_; rintro e w' ⟨rfl, rfl⟩)
      go_ret2
      exact ⟨rfl, rfl⟩
  · clear h
    go_enter Try.func23, Try.ntmps23
    go_wp2_with (go_at_call 44; refine (right_no _ _ hm).mono ?_; rintro e w' ⟨rfl, rfl⟩)
    go_ret2
    exact ⟨rfl, rfl⟩

end Go.Proofs.Ytmcidhjcimjeiaa
