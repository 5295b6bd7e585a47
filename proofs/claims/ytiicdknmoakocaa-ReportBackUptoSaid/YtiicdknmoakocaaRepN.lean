/-
  Package report: the plain laws of Crash: one line to a panic, and how long it may be.
-/
import Derived.Test.YtiicdknmoakocaaRepC
import Derived.Test.YtiicdknmoakocaaRead
namespace Go.Proofs.Ytiicdknmoakocaa
open Go.RowKit
set_option linter.unusedVariables false
set_option linter.unusedSimpArgs false

theorem dec_ne (u : Nat) (h : u < 10 ^ 20) : (10 : UInt8) ∉ Lib.decDigits u := fun hm => by
  have h1 := dec_digit 19 u h _ hm
  have h2 : (10 : UInt8).toNat = 10 := by decide
  omega
theorem itoa_ne (n : Int) (h : okI n) : (10 : UInt8) ∉ Lib.itoa n := by
  unfold okI at h
  unfold Lib.itoa
  split
  · intro hm
    rcases List.mem_cons.1 hm with h1 | h1
    · exact absurd h1 (by decide)
    · exact dec_ne _ (by omega) h1
  · exact dec_ne _ (by omega)
theorem esc_neB : ∀ n, n < 256 → (10 : UInt8) ∉ (escB (UInt8.ofNat n)).getD [] := by decide +kernel
theorem escs_ne (l : List UInt8) : (10 : UInt8) ∉ escs l := by
  intro h
  unfold escs at h
  rw [List.mem_flatMap] at h
  obtain ⟨c, _, hc⟩ := h
  have h1 := esc_neB c.toNat (UInt8.toNat_lt c)
  rw [UInt8.ofNat_toNat] at h1
  exact h1 hc
theorem mend_neB : ∀ n, n < 256 → mendB [] (UInt8.ofNat n) ≠ 10 := by decide +kernel
theorem mend_ne (l : List UInt8) : (10 : UInt8) ∉ l.map (mendB []) := by
  intro h
  rw [List.mem_map] at h
  obtain ⟨c, _, hc⟩ := h
  have h1 := mend_neB c.toNat (UInt8.toNat_lt c)
  rw [UInt8.ofNat_toNat] at h1
  exact h1 hc
theorem rtext_ne (k n : Int) (s : ByteArray) (h : okI n) : (10 : UInt8) ∉ rtextM k n s := by
  unfold rtextM
  split
  · exact itoa_ne n h
  split
  · intro hm
    rcases List.mem_cons.1 hm with h1 | h1
    · exact absurd h1 (by decide)
    rcases List.mem_append.1 h1 with h1 | h1
    · exact escs_ne _ h1
    · exact absurd h1 (by decide)
  split
  · exact mend_ne _
  · decide
theorem pnc_count (p : PanicM) (h : okI p.val.n) : (pncM p).count 10 = 1 := by
  have h1 : (rtextM p.val.k p.val.n p.val.s).count 10 = 0 := List.count_eq_zero.2 (rtext_ne _ _ _ h)
  have h2 : panicB.count 10 = 0 := by decide
  have h3 : ((if p.rcd then recB else []) ++ [10] : List UInt8).count 10 = 1 := by cases p.rcd <;> decide
  unfold pncM
  rw [List.count_append, List.count_append, h1, h2, h3]
theorem pnc_tail (l : List PanicM) (h : ∀ p ∈ l, okI p.val.n) : ((l.map fun p => 9 :: pncM p).flatten).count 10 = l.length := by
  induction l with
  | nil => rfl
  | cons p l ih =>
    have h1 := pnc_count p (h p (by simp))
    have h2 := ih (fun q hq => h q (by simp [hq]))
    rw [List.map_cons, List.flatten_cons, List.count_append, h2, List.count_cons_of_ne (by decide), h1, List.length_cons]; omega
/-- A crash has one line to each panic. -/
theorem crash_count (l : List PanicM) (h : ∀ p ∈ l, okI p.val.n) : (crashM l).count 10 = l.length := by
  cases l with
  | nil => rfl
  | cons p l =>
    have h1 := pnc_count p (h p (by simp))
    have h2 := pnc_tail l (fun q hq => h q (by simp [hq]))
    unfold crashM
    rw [List.count_append, h1, h2, List.length_cons]; omega
/-- The texts of a crash, added up. -/
def textsN : List PanicM → Nat
  | [] => 0
  | p :: l => p.val.s.size + textsN l
theorem pnc_len (p : PanicM) (h : okI p.val.n) : (pncM p).length ≤ 2 * p.val.s.size + 42 := by
  have h1 := rtext_len p.val.k p.val.n p.val.s h
  have h2 : panicB.length = 7 := rfl
  have h3 : ((if p.rcd then recB else []) ++ [10] : List UInt8).length ≤ 13 := by cases p.rcd <;> decide
  unfold pncM
  rw [List.length_append, List.length_append]; omega
theorem pnc_tails (l : List PanicM) (h : ∀ p ∈ l, okI p.val.n) : ((l.map fun p => 9 :: pncM p).flatten).length ≤ 2 * textsN l + 43 * l.length := by
  induction l with
  | nil => simp [textsN]
  | cons p l ih =>
    have h1 := pnc_len p (h p (by simp))
    have h2 := ih (fun q hq => h q (by simp [hq]))
    rw [List.map_cons, List.flatten_cons, List.length_append, List.length_cons, List.length_cons]
    simp only [textsN]
    omega
theorem crash_len (l : List PanicM) (h : ∀ p ∈ l, okI p.val.n) : (crashM l).length ≤ 2 * textsN l + 43 * l.length := by
  cases l with
  | nil => simp [crashM]
  | cons p l =>
    have h1 := pnc_len p (h p (by simp))
    have h2 := pnc_tails l (fun q hq => h q (by simp [hq]))
    unfold crashM
    rw [List.length_append, List.length_cons]
    simp only [textsN]
    omega
end Go.Proofs.Ytiicdknmoakocaa
