/-
  Tokens, told by what it answers of the text alone. Condition: the text lies within the reach.
-/
import Derived.Test.YtgonekmmbeedeaaScanQ
import Derived.Test.YtgonekmmbeedeaaScanT
namespace Go.Proofs.Ytgonekmmbeedeaa
open Go.RowKit
set_option linter.unusedVariables false

theorem toks_ex (S : ByteArray) : ∃ r, ToksM S r := by
  unfold ToksM
  by_cases h8 : 8000 < S.size
  · exact ⟨_, by rw [if_pos h8]⟩
  · obtain ⟨r, hr⟩ := Runs.ex S.size cut0 (cut0_bd (S := S) (by omega)) (by simp [cut0])
    exact ⟨r, by rw [if_neg h8]; exact hr⟩
theorem toks_ok {S : ByteArray} {l : List TokenM} (hr : ToksM S (.ok l)) (w : World) : Calls Try.prog 39 #[.string S] w fun e w' => (∃ v, e = .returned (.tuple #[v, .agg #[.int .i64 0, .int .i64 0, .int .i64 0]]) ∧ OwnL CeToken 4 119 w' w.heap.size v l) ∧ Kp w w' := by
  have hs := hr.placed.2.2
  refine (toks_any w S (by omega)).mono ?_
  rintro e w' ⟨h1, h2⟩
  refine ⟨?_, h2⟩
  rcases h1 with ⟨l2, v, hT, h3, h4⟩ | ⟨er, hT, _⟩
  · have hd := hT.det hr
    injection hd with hd
    subst hd
    exact ⟨v, h3, h4⟩
  · have hd := hT.det hr
    cases hd
theorem toks_err {S : ByteArray} (hs : S.size ≤ 140737488351232) {er : Err} (hr : ToksM S (.error er)) (w : World) : Calls Try.prog 39 #[.string S] w fun e w' => (1 ≤ er.1 ∧ er.1 ≤ 20 ∧ e = .returned (.tuple #[.slice none 0 0, .agg #[.int .i64 er.1, .int .i64 er.2.1, .int .i64 er.2.2]])) ∧ Kp w w' := by
  refine (toks_any w S hs).mono ?_
  rintro e w' ⟨h1, h2⟩
  refine ⟨?_, h2⟩
  rcases h1 with ⟨l2, v, hT, h3, h4⟩ | ⟨er2, hT, g1, g2, h3⟩
  · have hd := hT.det hr
    cases hd
  · have hd := hT.det hr
    injection hd with hd
    subst hd
    exact ⟨g1, g2, h3⟩
end Go.Proofs.Ytgonekmmbeedeaa
