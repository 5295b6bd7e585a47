/-
  slices.Clone of slices of ints. No condition.
-/
import Derived.Test.YtiicdknmoakocaaInts
namespace Go.Proofs.Ytiicdknmoakocaa
open Go.RowKit
set_option linter.unusedVariables false

set_option maxHeartbeats 1000000 in
theorem clone_cells_int (A : Option Addr) (n c : Nat) (w : World) (news : List Value) (hl : news.length = n * 1) (hsrc : 0 < n → ∃ ad, A = some ad ∧ ∀ j u, news[j]? = some u → w.cell? (ad.add j) = some u) (h1 : ∀ u ∈ news, u.oneCell' = true) (hb : n * 8 ≤ 140737488355328) :
    Calls Try.prog 56 #[.slice A n c] w fun e w' => (∃ v', e = .returned v' ∧ w'.ownsRow w.heap.size 3 1 v' n news) ∧ Kp w w' := by
  have q22 : ∀ (w : World) (a : Option Addr) (n c n' c' : Nat), (binOp .eql 23 (.slice a n c) (.slice none n' c')).run Try.prog w = .ok (.bool a.isNone) w := fun w a n c n' c' => Lib.run_eql_slice_nil w _ _ a n c n' c' Try.underlying23
  have HS := hid hsrc
  clear hsrc
  cases A with
  | none =>
    have hn : n = 0 := by
      rcases Nat.eq_zero_or_pos n with h | h
      · exact h
      · obtain ⟨_, e, _⟩ := HS.out h; cases e
    subst hn
    obtain rfl : news = [] := List.eq_nil_of_length_eq_zero (by simpa using hl)
    go_enter Try.func56, Try.ntmps56
    go_wp2
    go_ret
    exact ⟨⟨_, rfl, World.ownsRow_nil _ _ _ _⟩, Kp.refl _⟩
  | some ad =>
    have HC : Hid (0 < n → ∃ ad', some ad = some ad' ∧ ∀ j u, news[j]? = some u → (w.alloc (.cells #[] 3)).cell? (ad'.add j) = some u) := hid fun hp => by
      obtain ⟨ad', e, hc⟩ := HS.out hp
      exact ⟨ad', e, fun j u hu => Lib.cell?_alloc_some _ (hc j u hu)⟩
    have HO := hid (World.ownsRow_made w #[] 0 (e := 3) (size := 1) (Nat.le_refl _) (Nat.zero_le _) rfl)
    go_enter Try.func56, Try.ntmps56
    go_wp2_with (at_builtin; go_must (refine app_src elInt rfl (.tmp 5) (.tmp 6) rfl HO.out rfl news _ _ _ rfl hl HC.out h1 (by unfold maxLen; omega) (by omega) (by simp) ?_); intro v1 w1 hown1 hg1 hm1 hb1)
    go_ret
    exact ⟨⟨_, rfl, by simpa using hown1⟩, Below.trans ((Kp.refl _).alloc _) hb1⟩
theorem clone_ints (v : Value) (xs : List Int) (w : World) (h : RdInts w v xs) : Calls Try.prog 56 #[v] w fun e w' => (∃ v', e = .returned v' ∧ OwnI w' w.heap.size v' xs) ∧ Kp w w' := by
  have h' := h
  obtain ⟨h0, _, A, c, rfl, h2, h3⟩ := h
  exact clone_cells_int A xs.length c w (xs.map intV) (by simp) (h'.src).2 (oneInt _) h0

end Go.Proofs.Ytiicdknmoakocaa
