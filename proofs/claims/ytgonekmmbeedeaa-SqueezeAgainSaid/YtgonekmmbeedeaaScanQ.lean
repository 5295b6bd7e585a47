/-
  Where tokens stand: lines and columns, in plain Lean. No condition.
-/
import Derived.Test.YtgonekmmbeedeaaScanF
namespace Go.Proofs.Ytgonekmmbeedeaa
open Go.RowKit
set_option linter.unusedVariables false
set_option linter.unusedSimpArgs false

/-! ### what is cut has no line's end within -/
theorem unq_nonl : ∀ (n : Nat) (l o : Bs), l.length ≤ n → unq l = some o → ∀ b ∈ l, b ≠ 10
  | _, [], o, _, _, b, hb => by cases hb
  | _, [c], o, _, h, b, hb => by
    rw [List.mem_singleton] at hb; subst hb
    rintro rfl
    rw [unq_bad 10 [] (by decide)] at h; cases h
  | 0, c :: d :: r, o, hn, _, b, hb => by simp at hn
  | n + 1, c :: d :: r, o, hn, h, b, hb => by
    by_cases h1 : badU c = true
    · rw [unq_bad c _ h1] at h; cases h
    have h1' : badU c = false := by cases hc : badU c with
      | true => exact absurd hc h1
      | false => rfl
    have hc : c ≠ 10 := by rintro rfl; exact absurd h1' (by decide)
    by_cases h2 : c = 92
    · subst h2
      cases hx : unesc d with
      | none => rw [unq_noesc d r hx] at h; cases h
      | some x =>
        rw [unq_esc d x r hx] at h
        cases hr : unq r with
        | none => rw [hr] at h; cases h
        | some o2 =>
          have hd : d ≠ 10 := by rintro rfl; rw [show unesc 10 = none by decide] at hx; cases hx
          rcases List.mem_cons.1 hb with rfl | hb
          · exact hc
          · rcases List.mem_cons.1 hb with rfl | hb
            · exact hd
            · exact unq_nonl n r o2 (by simp at hn; omega) hr b hb
    · rw [unq_plain c _ h1' h2] at h
      cases hr : unq (d :: r) with
      | none => rw [hr] at h; cases h
      | some o2 =>
        rcases List.mem_cons.1 hb with rfl | hb
        · exact hc
        · exact unq_nonl n (d :: r) o2 (by simp at hn ⊢; omega) hr b hb
theorem span_all {p : UInt8 → Bool} : ∀ (l : Bs), ∀ b ∈ l.take (span_ p l), p b = true
  | [], b, hb => by cases hb
  | c :: r, b, hb => by
    by_cases hc : p c = true
    · rw [span_cons hc, List.take_succ_cons] at hb
      rcases List.mem_cons.1 hb with rfl | hb
      · exact hc
      · exact span_all r b hb
    · rw [span_stop (by cases h : p c with | true => exact absurd h hc | false => rfl)] at hb
      cases hb
theorem word_nonl {b : UInt8} (h : wordB b = true) : b ≠ 10 := by rintro rfl; exact absurd h (by decide)
theorem text_nonl {r : Bs} {k : Nat} (h1 : txtLen r = some k) (h2 : okText (r.take k) = true) : (∀ b ∈ (34 :: r).take (k + 2), b ≠ 10) ∧ ∃ s, r = r.take k ++ 34 :: s := by
  have hs : ∀ (n : Nat) (r : Bs) (k : Nat), r.length ≤ n → txtLen r = some k → r[k]? = some 34 := by
    intro n
    induction n with
    | zero =>
      intro r k hn h
      cases r with
      | nil => simp [txtLen] at h
      | cons _ _ => simp at hn
    | succ n ih =>
      intro r k hn h
      match r, hn, h with
      | [], _, h => simp [txtLen] at h
      | [c], _, h =>
        unfold txtLen at h
        split at h
        · rename_i hc; injection h with h; subst h; subst hc; rfl
        · cases h
      | c :: d :: t, hn, h =>
        unfold txtLen at h
        split at h
        · rename_i hc; injection h with h; subst h; subst hc; rfl
        · split at h
          · cases h
          · split at h
            · cases ht : txtLen t with
              | none => rw [ht] at h; cases h
              | some j =>
                rw [ht] at h; injection h with h; subst h
                have := ih t j (by simp at hn; omega) ht
                simpa using this
            · cases ht : txtLen (d :: t) with
              | none => rw [ht] at h; cases h
              | some j =>
                rw [ht] at h; injection h with h; subst h
                have := ih (d :: t) j (by simp at hn ⊢; omega) ht
                simpa using this
  have hk := hs _ r k (Nat.le_refl _) h1
  obtain ⟨hkl, hke⟩ := List.getElem?_eq_some_iff.1 hk
  have hd : r = r.take k ++ 34 :: r.drop (k + 1) := by
    have e := List.take_append_drop k r
    rw [List.drop_eq_getElem_cons hkl, hke] at e
    exact e.symm
  refine ⟨fun b hb => ?_, _, hd⟩
  rw [List.take_succ_cons] at hb
  rcases List.mem_cons.1 hb with rfl | hb
  · decide
  · have e : r.take (k + 1) = r.take k ++ [34] := by rw [List.take_succ_eq_append_getElem hkl, hke]
    rw [e] at hb
    rcases List.mem_append.1 hb with hb | hb
    · unfold okText at h2
      cases hu : unq (r.take k) with
      | none => rw [hu] at h2; cases h2
      | some o => exact unq_nonl _ _ o (Nat.le_refl _) hu b hb
    · rw [List.mem_singleton] at hb; subst hb; decide
theorem sign_nonl (l : Bs) : ∀ b ∈ l.take (signLen l), b ≠ 10 := by
  intro b hb
  rintro rfl
  match l, hb with
  | [], hb => cases hb
  | [a], hb =>
    simp only [signLen] at hb
    by_cases h : signs1.contains a = true
    · rw [if_pos h] at hb
      have e : 10 = a := by simpa using hb
      subst e
      exact absurd h (by decide)
    · rw [if_neg h] at hb; cases hb
  | a :: c :: r, hb =>
    simp only [signLen] at hb
    by_cases h : signs2.contains [a, c] = true
    · rw [if_pos h] at hb
      have e : 10 = a ∨ 10 = c := by simpa using hb
      rcases e with rfl | rfl
      · revert h; simp [signs2]
      · revert h; simp [signs2]
    · rw [if_neg h] at hb
      by_cases h1 : signs1.contains a = true
      · rw [if_pos h1] at hb
        have e : 10 = a := by simpa using hb
        subst e
        exact absurd h1 (by decide)
      · rw [if_neg h1] at hb; cases hb
/-- What a step passes over or takes has no line's end. -/
theorem lex_nonl {l : Bs} {n : Nat} (h : lex l = .skip n ∨ ∃ k, lex l = .tok k n) : ∀ b ∈ l.take n, b ≠ 10 := by
  cases l with
  | nil => intro b hb; simp at hb
  | cons c r =>
    by_cases h1 : c = 10
    · subst h1; rw [lex_nl] at h; rcases h with h | ⟨k, h⟩ <;> cases h
    by_cases h2 : c = 32 ∨ c = 9 ∨ c = 13
    · rw [lex_blank r h1 h2] at h
      rcases h with h | ⟨k, h⟩
      · injection h with h; subst h
        intro b hb
        simp at hb; subst hb; exact h1
      · cases h
    by_cases h3 : c = 47 ∧ r.head? = some 47
    · rw [lex_remark h1 h2 h3] at h
      rcases h with h | ⟨k, h⟩
      · injection h with h; subst h
        intro b hb
        have := span_all (p := noNl) (c :: r) b hb
        rintro rfl; exact absurd this (by decide)
      · cases h
    cases h4 : letterB c with
    | true =>
      rw [lex_name h1 h2 h3 h4] at h
      split at h
      · rcases h with h | ⟨k, h⟩ <;> cases h
      · rcases h with h | ⟨k, h⟩
        · cases h
        · injection h with _ h; subst h
          intro b hb
          exact word_nonl (span_all _ b hb)
    | false =>
      cases h5 : digitB c with
      | true =>
        rw [lex_number h1 h2 h3 h4 h5] at h
        split at h
        · rcases h with h | ⟨k, h⟩
          · cases h
          · injection h with _ h; subst h
            intro b hb
            exact word_nonl (span_all _ b hb)
        · rcases h with h | ⟨k, h⟩ <;> cases h
      | false =>
        by_cases h6 : c = 34
        · subst h6
          rw [lex_text] at h
          cases ht : txtLen r with
          | none => rw [ht] at h; rcases h with h | ⟨k, h⟩ <;> cases h
          | some j =>
            rw [ht] at h
            dsimp only at h
            split at h
            · rename_i ho
              rcases h with h | ⟨k, h⟩
              · cases h
              · injection h with _ h; subst h
                exact (text_nonl ht ho).1
            · rcases h with h | ⟨k, h⟩ <;> cases h
        · by_cases h7 : c = 59
          · subst h7
            rw [lex_semi] at h
            rcases h with h | ⟨k, h⟩
            · cases h
            · injection h with _ h; subst h
              intro b hb
              simp at hb; subst hb; decide
          · rw [lex_sign h1 h2 h3 h4 h5 h6 h7] at h
            split at h
            · rcases h with h | ⟨k, h⟩ <;> cases h
            · rcases h with h | ⟨k, h⟩
              · cases h
              · injection h with _ h; subst h
                exact sign_nonl _
/-! ### line and column of a place -/
def posL (S : ByteArray) : Nat → Int × Int
  | 0 => (1, 1)
  | a + 1 => if S.data.toList[a]? = some 10 then ((posL S a).1 + 1, 1) else ((posL S a).1, (posL S a).2 + 1)
theorem posL_nl {S : ByteArray} {a : Nat} (h : S.data.toList[a]? = some 10) : posL S (a + 1) = ((posL S a).1 + 1, 1) := by rw [posL, if_pos h]
theorem posL_up {S : ByteArray} {a : Nat} (h : S.data.toList[a]? ≠ some 10) : posL S (a + 1) = ((posL S a).1, (posL S a).2 + 1) := by rw [posL, if_neg h]
theorem posL_add {S : ByteArray} {a : Nat} : ∀ n : Nat, (∀ b ∈ (restOf S a).take n, b ≠ 10) → posL S (a + n) = ((posL S a).1, (posL S a).2 + n)
  | 0, _ => by simp
  | n + 1, h => by
    have ih := posL_add (S := S) (a := a) n (fun b hb => h b (List.mem_of_mem_take (by rw [List.take_take, Nat.min_eq_left (Nat.le_succ n)] ; exact hb : b ∈ ((restOf S a).take (n + 1)).take n)))
    have e : S.data.toList[a + n]? ≠ some 10 := by
      intro he
      have he2 : (restOf S a)[n]? = some 10 := by unfold restOf; rw [List.getElem?_drop]; exact he
      obtain ⟨h1, h2⟩ := List.getElem?_eq_some_iff.1 he2
      exact h 10 (by rw [List.take_succ_eq_append_getElem h1, h2]; simp) rfl
    rw [← Nat.add_assoc, posL_up e, ih]
    simp; omega
theorem posL_col {S : ByteArray} : ∀ a, 1 ≤ (posL S a).2
  | 0 => by simp [posL]
  | a + 1 => by
    have := posL_col (S := S) a
    rw [posL]; split
    · simp
    · simp; omega
/-- Later places are behind. -/
theorem posL_lt {S : ByteArray} {a : Nat} : ∀ d : Nat, (posL S a).1 < (posL S (a + d + 1)).1 ∨ ((posL S a).1 = (posL S (a + d + 1)).1 ∧ (posL S a).2 < (posL S (a + d + 1)).2)
  | 0 => by
    show _ ∨ _
    rw [Nat.add_zero, posL]
    split
    · left; show _ < _ + 1; omega
    · right; exact ⟨rfl, by show _ < _ + 1; omega⟩
  | d + 1 => by
    have ih := posL_lt (S := S) (a := a) d
    rw [show a + (d + 1) + 1 = (a + d + 1) + 1 by omega, posL]
    split
    · left
      rcases ih with h | h
      · simp; omega
      · simp; omega
    · rcases ih with h | h
      · left; simpa using h
      · right; simp; omega
/-- Where a token stands. -/
def TokAt (S : ByteArray) (t : TokenM) (a : Nat) : Prop := a ≤ S.size ∧ posL S a = (t.line, t.col) ∧
  ((a + t.text.size ≤ S.size ∧ S.extract a (a + t.text.size) = t.text) ∨ (t.kind = 6 ∧ t.text = semiB ∧ (S.size = a ∨ S.data.toList[a]? = some 10)))
/-- The tokens stand one behind the other, up to p. -/
def Placed (S : ByteArray) (l : List TokenM) (p : Nat) : Prop := ∃ f : Nat → Nat, (∀ i t, l[i]? = some t → TokAt S t (f i)) ∧ (∀ i, f i ≤ f (i + 1)) ∧ ∀ i, f i ≤ p
theorem Placed.mono {S : ByteArray} {l : List TokenM} {p q : Nat} (h : Placed S l p) (hq : p ≤ q) : Placed S l q := by
  obtain ⟨f, h1, h2, h3⟩ := h
  exact ⟨f, h1, h2, fun i => Nat.le_trans (h3 i) hq⟩
theorem Placed.snoc {S : ByteArray} {l : List TokenM} {p : Nat} {t : TokenM} (h : Placed S l p) (ht : TokAt S t p) : Placed S (l ++ [t]) p := by
  obtain ⟨f, h1, h2, h3⟩ := h
  refine ⟨fun i => if i < l.length then f i else p, fun i t' hi => ?_, fun i => ?_, fun i => ?_⟩
  · by_cases hl : i < l.length
    · rw [List.getElem?_append_left hl] at hi
      show TokAt S t' (if i < l.length then f i else p)
      rw [if_pos hl]; exact h1 i t' hi
    · rw [List.getElem?_append_right (by omega)] at hi
      have : i - l.length = 0 := by
        rcases Nat.eq_zero_or_pos (i - l.length) with h | h
        · exact h
        · rw [List.getElem?_eq_none (by simp; omega)] at hi; cases hi
      rw [this] at hi
      injection hi with hi; subst hi
      show TokAt S t (if i < l.length then f i else p)
      rw [if_neg hl]; exact ht
  · show (if i < l.length then f i else p) ≤ (if i + 1 < l.length then f (i + 1) else p)
    split
    · split
      · exact h2 i
      · exact h3 i
    · rw [if_neg (by omega)]; exact Nat.le_refl _
  · show (if i < l.length then f i else p) ≤ p
    split
    · exact h3 i
    · exact Nat.le_refl _
/-- What stands through a run. -/
structure CInv (S : ByteArray) (c : CutM) : Prop where
  bd : CBd S c
  at_ : posL S c.pos = (c.line, c.col)
  pl : Placed S c.out c.pos
theorem CInv.lineEnd {S : ByteArray} {c c' : CutM} (h : CInv S c) (hs : S.size = c.pos ∨ S.data.toList[c.pos]? = some 10) (hp : lineEndM c = .ok c') : CInv S c' ∧ c'.pos = c.pos ∧ c'.line = c.line ∧ c'.col = c.col := by
  obtain ⟨h1, h2⟩ := h.bd.lineEnd hp
  rcases lineEndM_ok hp with rfl | hq
  · exact ⟨h, rfl, rfl, rfl⟩
  · obtain ⟨_, rfl⟩ := putM_ok hq
    refine ⟨⟨h1, ?_, ?_⟩, rfl, rfl, by show c.col + ((0 : Nat) : Int) = c.col; omega⟩
    · show posL S (c.pos + 0) = (c.line, c.col + ((0 : Nat) : Int))
      rw [Nat.add_zero, h.at_]; simp
    · show Placed S (c.out ++ [_]) (c.pos + 0)
      exact h.pl.snoc ⟨h.bd.pos, h.at_, .inr ⟨rfl, rfl, hs⟩⟩
theorem rest_at (S : ByteArray) (a : Nat) (h : a < S.size) : S.data.toList[a]? = some S[a] := by
  rw [Array.getElem?_toList]; exact Array.getElem?_eq_getElem h
theorem CInv.step {S : ByteArray} {c c' : CutM} (h : CInv S c) (hl : c.pos < S.size) (hp : stepM S c = .ok c') : CInv S c' ∧ c.pos < c'.pos := by
  obtain ⟨h1, h2⟩ := h.bd.step hl hp
  refine ⟨?_, h2⟩
  have hne : restOf S c.pos ≠ [] := by rw [rest_cons hl]; exact List.cons_ne_nil _ _
  obtain ⟨g1, g2, g3⟩ := lex_len hne
  rw [rest_len] at g1 g2
  unfold stepM at hp
  split at hp
  · rename_i hx
    have h10 : S.data.toList[c.pos]? = some 10 := by
      rw [rest_at S c.pos hl]
      by_cases e : S[c.pos] = 10
      · rw [e]
      · exfalso
        have hr := rest_cons hl
        rw [hr] at hx
        revert hx
        unfold lex
        dsimp only
        rw [if_neg e]
        repeat' split
        all_goals (intro hx; cases hx)
    cases hq : lineEndM c with
    | error e => rw [hq] at hp; cases hp
    | ok c1 =>
      rw [hq] at hp
      injection hp with hp
      subst hp
      obtain ⟨k1, k2, k3, k4⟩ := h.lineEnd (.inr h10) hq
      refine ⟨h1, ?_, k1.pl.mono (by show c1.pos ≤ c1.pos + 1; omega)⟩
      show posL S (c1.pos + 1) = (c1.line + 1, 1)
      rw [k2, posL_nl h10, h.at_, k3]
  · rename_i n hn
    injection hp with hp
    subst hp
    refine ⟨h1, ?_, h.pl.mono (by show c.pos ≤ c.pos + n; omega)⟩
    show posL S (c.pos + n) = (c.line, c.col + n)
    rw [posL_add n (lex_nonl (.inl hn)), h.at_]
  · rename_i k n hn
    obtain ⟨_, rfl⟩ := putM_ok hp
    have hz := g2 k n hn
    have hsz : (S.extract c.pos (c.pos + n)).size = n := by rw [ext_size (by omega) (by omega)]; omega
    refine ⟨h1, ?_, ?_⟩
    · show posL S (c.pos + n) = (c.line, c.col + n)
      rw [posL_add n (lex_nonl (.inr ⟨k, hn⟩)), h.at_]
    · show Placed S (c.out ++ [_]) (c.pos + n)
      exact (h.pl.snoc (t := ⟨k, S.extract c.pos (c.pos + n), c.line, c.col⟩) ⟨h.bd.pos, h.at_, .inl ⟨by show c.pos + (S.extract c.pos (c.pos + n)).size ≤ S.size; omega, by show S.extract c.pos (c.pos + (S.extract c.pos (c.pos + n)).size) = _; rw [hsz]⟩⟩).mono (by omega)
  · cases hp
theorem cut0_inv {S : ByteArray} (h : S.size ≤ 8000) : CInv S cut0 := ⟨cut0_bd h, rfl, ⟨fun _ => 0, fun i t hi => by simp [cut0] at hi, fun _ => Nat.le_refl _, fun _ => Nat.le_refl _⟩⟩
theorem Runs.placed {S : ByteArray} {c : CutM} {r : Except Err (List TokenM)} (h : Runs S c r) (hi : CInv S c) : ∀ l, r = .ok l → Placed S l S.size ∧ l.length ≤ 2000 := by
  induction h with
  | @fin c hf =>
    intro l hl
    have hpos := hi.bd.pos
    cases hq : lineEndM c with
    | error e => rw [hq] at hl; cases hl
    | ok c2 =>
      rw [hq] at hl
      injection hl with hl
      subst hl
      obtain ⟨k1, k2, _⟩ := hi.lineEnd (.inl (by omega)) hq
      exact ⟨k1.pl.mono (by rw [k2]; exact hpos), k1.bd.out⟩
  | step h1 h2 h3 ih => exact ih (hi.step h1 h2).1
  | bad h1 h2 => intro l hl; cases hl
theorem ToksM.placed {S : ByteArray} {l : List TokenM} (h : ToksM S (.ok l)) : Placed S l S.size ∧ l.length ≤ 2000 ∧ S.size ≤ 8000 := by
  unfold ToksM at h
  by_cases h8 : 8000 < S.size
  · rw [if_pos h8] at h; cases h
  · rw [if_neg h8] at h
    obtain ⟨h1, h2⟩ := h.placed (cut0_inv (by omega)) l rfl
    exact ⟨h1, h2, by omega⟩
theorem ToksM.det {S : ByteArray} {r r' : Except Err (List TokenM)} (h : ToksM S r) (h' : ToksM S r') : r = r' := by
  unfold ToksM at h h'
  by_cases h8 : 8000 < S.size
  · rw [if_pos h8] at h h'; rw [h, h']
  · rw [if_neg h8] at h h'; exact h.det h'
end Go.Proofs.Ytgonekmmbeedeaa
