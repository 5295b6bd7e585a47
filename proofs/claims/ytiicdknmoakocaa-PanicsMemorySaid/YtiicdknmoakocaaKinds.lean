/-
  The kinds of values. No condition.
-/
import Derived.Test.YtiicdknmoakocaaBase
namespace Go.Proofs.Ytiicdknmoakocaa

/-- The tests of a kind. -/
structure KTests (k : Int) (b1 b2 b3 b4 b5 b6 b7 b8 : Bool) : Prop where
  t1 : (k == 1) = b1
  t2 : (k == 2) = b2
  t3 : (k == 3) = b3
  t4 : (k == 4) = b4
  t5 : (k == 5) = b5
  t6 : (k == 6) = b6
  t7 : (k == 7) = b7
  t8 : (k == 8) = b8
theorem kind_cases (k : Int) : k = 1 ∨ k = 2 ∨ k = 3 ∨ k = 4 ∨ k = 5 ∨ k = 6 ∨ k = 7 ∨ k = 8 ∨ KTests k false false false false false false false false := by
  by_cases h1 : k = 1
  · exact .inl h1
  by_cases h2 : k = 2
  · exact .inr (.inl h2)
  by_cases h3 : k = 3
  · exact .inr (.inr (.inl h3))
  by_cases h4 : k = 4
  · exact .inr (.inr (.inr (.inl h4)))
  by_cases h5 : k = 5
  · exact .inr (.inr (.inr (.inr (.inl h5))))
  by_cases h6 : k = 6
  · exact .inr (.inr (.inr (.inr (.inr (.inl h6)))))
  by_cases h7 : k = 7
  · exact .inr (.inr (.inr (.inr (.inr (.inr (.inl h7))))))
  by_cases h8 : k = 8
  · exact .inr (.inr (.inr (.inr (.inr (.inr (.inr (.inl h8)))))))
  exact .inr (.inr (.inr (.inr (.inr (.inr (.inr (.inr ⟨by simp [h1], by simp [h2], by simp [h3], by simp [h4], by simp [h5], by simp [h6], by simp [h7], by simp [h8]⟩)))))))
end Go.Proofs.Ytiicdknmoakocaa
