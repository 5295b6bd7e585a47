/-
  Which number a text is, and what a quoted text says: word.Read and scan.Unquote at every text. Condition: the text lies within the reach.
-/
import Derived.Test.YtgonekmmbeedeaaRead
import Derived.Test.YtgonekmmbeedeaaInts
import Derived.Test.YtgonekmmbeedeaaUnquoteP
namespace Go.Proofs.Ytgonekmmbeedeaa
open Go.RowKit
set_option linter.unusedVariables false
set_option linter.unusedSimpArgs false

theorem dec_inj {u v : Nat} (hu : u < 10 ^ 19) (hv : v < 10 ^ 19) (h : Lib.decDigits u = Lib.decDigits v) : u = v := by
  have h1 := rdVal_dec 18 u hu
  have h2 := rdVal_dec 18 v hv
  rw [h, h2] at h1
  omega
theorem dec_head (u : Nat) (hu : u < 10 ^ 20) : ∃ c r, Lib.decDigits u = c :: r ∧ 48 ≤ c.toNat ∧ c.toNat ≤ 57 := by
  cases h : Lib.decDigits u with
  | nil => have := dec_pos u; rw [h] at this; simp at this
  | cons c r => exact ⟨c, r, rfl, dec_digit 19 u hu c (by rw [h]; exact List.mem_cons_self ..)⟩
theorem itoa_inj {u v : Int} (hu : okI u) (hv : okI v) (h : Lib.itoa u = Lib.itoa v) : u = v := by
  unfold okI at hu hv
  unfold Lib.itoa at h
  split at h <;> split at h
  · injection h with _ h
    have := dec_inj (by omega) (by omega) h
    omega
  · obtain ⟨c, r, e, h1, _⟩ := dec_head v.toNat (by omega)
    rw [e] at h
    injection h with h _
    subst h
    exact absurd h1 (by decide)
  · obtain ⟨c, r, e, h1, _⟩ := dec_head u.toNat (by omega)
    rw [e] at h
    injection h with h _
    subst h
    exact absurd h1 (by decide)
  · have := dec_inj (by omega) (by omega) h
    omega
/-- The number that a text is. -/
noncomputable def readO (l : List UInt8) : Option Int := by
  classical exact if h : ∃ v, okI v ∧ Lib.itoa v = l then some (Classical.choose h) else none
theorem readO_itoa (v : Int) (h : okI v) : readO (Lib.itoa v) = some v := by
  unfold readO
  have hx : ∃ u, okI u ∧ Lib.itoa u = Lib.itoa v := ⟨v, h, rfl⟩
  rw [dif_pos hx]
  have := Classical.choose_spec hx
  exact congrArg some (itoa_inj this.1 h this.2)
theorem readO_some {l : List UInt8} {v : Int} (h : readO l = some v) : okI v ∧ Lib.itoa v = l := by
  unfold readO at h
  split at h
  · rename_i hx
    injection h with h
    subst h
    exact Classical.choose_spec hx
  · cases h
theorem readO_none {l : List UInt8} (h : readO l = none) : ∀ v, okI v → Lib.itoa v ≠ l := by
  intro v hv he
  subst he
  rw [readO_itoa v hv] at h; cases h
theorem read_o (s : ByteArray) (w : World) (hm : s.size ≤ 140737488351232) : Calls Try.prog 91 #[.string s] w fun e w' => e = .returned (.tuple #[.int .i64 ((readO s.data.toList).getD 0), .int .i64 (if (readO s.data.toList).isSome then 0 else 3)]) ∧ Kp w w' := by
  cases h : readO s.data.toList with
  | some v =>
    obtain ⟨hv, e⟩ := readO_some h
    have es : s = ⟨(Lib.itoa v).toArray⟩ := by rw [e]
    rw [es]
    exact read_hit v w hv
  | none =>
    refine read_miss s w (fun n h1 => ?_) (by unfold maxLen; omega)
    rw [beq_eq_false_iff_ne, ByteArray.toList_eq]
    exact readO_none h n h1
/-- What a quoted text says. -/
noncomputable def unqO (s : ByteArray) : Option (List UInt8) := by
  classical exact if h : ∃ o l : List UInt8, s = ⟨(34 :: (l ++ [34])).toArray⟩ ∧ unq l = some o ∧ o.length ≤ 200 then some (Classical.choose h) else none
theorem quoted_inj {l m : List UInt8} (h : (⟨(34 :: (l ++ [34])).toArray⟩ : ByteArray) = ⟨(34 :: (m ++ [34])).toArray⟩) : l = m := by
  have h1 := congrArg (fun b => b.data.toList) h
  simpa using h1
theorem unqO_mk {l o : List UInt8} (h : unq l = some o) (ho : o.length ≤ 200) : unqO ⟨(34 :: (l ++ [34])).toArray⟩ = some o := by
  unfold unqO
  have hx : ∃ o' l' : List UInt8, (⟨(34 :: (l ++ [34])).toArray⟩ : ByteArray) = ⟨(34 :: (l' ++ [34])).toArray⟩ ∧ unq l' = some o' ∧ o'.length ≤ 200 := ⟨o, l, rfl, h, ho⟩
  rw [dif_pos hx]
  obtain ⟨l', h1, h2, _⟩ := Classical.choose_spec hx
  obtain rfl := quoted_inj h1
  rw [h] at h2
  exact h2.symm
theorem unqO_none {l : List UInt8} (h : ∀ o, unq l = some o → 200 < o.length) : unqO ⟨(34 :: (l ++ [34])).toArray⟩ = none := by
  unfold unqO
  rw [dif_neg]
  rintro ⟨o, l', h1, h2, h3⟩
  obtain rfl := quoted_inj h1
  have := h o h2
  omega
theorem unqO_len {s : ByteArray} {o : List UInt8} (h : unqO s = some o) : o.length ≤ 200 := by
  unfold unqO at h
  split at h
  · rename_i hx
    injection h with h
    subst h
    obtain ⟨l', _, _, h3⟩ := Classical.choose_spec hx
    exact h3
  · cases h
/-- scan.Unquote at every text. -/
theorem unquote_o (s : ByteArray) (w : World) (hs : s.size ≤ 140737488351232) : Calls Try.prog 92 #[.string s] w fun e w' => e = .returned (.tuple #[.string ⟨((unqO s).getD []).toArray⟩, .int .i64 (if (unqO s).isSome then 0 else 4)]) ∧ Kp w w' := by
  by_cases hq : ∃ l : List UInt8, s = ⟨(34 :: (l ++ [34])).toArray⟩
  · obtain ⟨l, rfl⟩ := hq
    refine (unquote_mk l w (by simp [ByteArray.size] at hs; omega)).mono ?_
    rintro e w' ⟨⟨o, h1, h2, rfl⟩ | ⟨h1, rfl⟩, hk⟩
    · have h1 : unq l = some o := by simpa using h1
      rw [unqO_mk h1 h2]
      exact ⟨rfl, hk⟩
    · have h1 : ∀ o, unq l = some o → 200 < o.length := by simpa using h1
      rw [unqO_none h1]
      exact ⟨rfl, hk⟩
  · refine (unquote_not s w hs (fun h2 hx => hq (quoted_form s h2 hx.1 hx.2))).mono ?_
    rintro e w' ⟨rfl, hk⟩
    have : unqO s = none := by
      unfold unqO
      rw [dif_neg]
      rintro ⟨o, l, h1, _⟩
      exact hq ⟨l, h1⟩
    rw [this]
    exact ⟨rfl, hk⟩
end Go.Proofs.Ytgonekmmbeedeaa
