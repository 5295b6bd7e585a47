/-
  What tokens are cut does not depend on what stands elsewhere: in plain Lean. No condition.
-/
import Derived.Test.YtlfgofjmcegeiaaScanQ
namespace Go.Proofs.Ytlfgofjmcegeiaa
open Go.RowKit
set_option linter.unusedVariables false
set_option linter.unusedSimpArgs false

def kt (t : TokenM) : Int × ByteArray := (t.kind, t.text)
/-- One state leads to another one. -/
inductive Reach (S : ByteArray) : CutM → CutM → Prop
  | refl {c : CutM} : Reach S c c
  | step {c c1 d : CutM} : c.pos < S.size → stepM S c = .ok c1 → Reach S c1 d → Reach S c d
theorem Reach.trans {S : ByteArray} {a b c : CutM} (h : Reach S a b) (h2 : Reach S b c) : Reach S a c := by
  induction h with
  | refl => exact h2
  | step h3 h4 _ ih => exact .step h3 h4 (ih h2)
theorem Reach.runs {S : ByteArray} {a b : CutM} {r : Except Err (List TokenM)} (h : Reach S a b) (h2 : Runs S b r) : Runs S a r := by
  induction h with
  | refl => exact h2
  | step h3 h4 _ ih => exact .step h3 h4 (ih h2)
theorem Reach.rest {S : ByteArray} {a b : CutM} {r : Except Err (List TokenM)} (h : Reach S a b) (h2 : Runs S a r) : Runs S b r := by
  induction h with
  | refl => exact h2
  | step h3 h4 _ ih =>
    refine ih ?_
    cases h2 with
    | fin h => omega
    | step _ h5 h6 => rw [h4] at h5; injection h5 with h5; subst h5; exact h6
    | bad _ h5 => rw [h4] at h5; cases h5
theorem Reach.bd {S : ByteArray} {a b : CutM} (h : Reach S a b) (hb : CInv S a) : CInv S b ∧ a.pos ≤ b.pos := by
  induction h with
  | refl => exact ⟨hb, Nat.le_refl _⟩
  | step h3 h4 _ ih =>
    obtain ⟨k1, k2⟩ := hb.step h3 h4
    obtain ⟨k3, k4⟩ := ih k1
    exact ⟨k3, by omega⟩
/-! ### the same rest gives the same tokens -/
theorem putM_sim {c c' : CutM} {k : Int} {t t' : ByteArray} {n n' : Nat} (hs : c.out.map kt = c'.out.map kt) (ht : t = t') {c1 : CutM} (h : putM c k t n = .ok c1) : ∃ c1', putM c' k t' n' = .ok c1' ∧ c1.out.map kt = c1'.out.map kt ∧ c1'.pos = c'.pos + n' ∧ c1.pos = c.pos + n := by
  obtain ⟨h1, rfl⟩ := putM_ok h
  have hl : c'.out.length = c.out.length := by have := congrArg List.length hs; simpa using this.symm
  refine ⟨{ c' with pos := c'.pos + n', col := c'.col + n', out := c'.out ++ [⟨k, t', c'.line, c'.col⟩] }, by unfold putM; rw [if_neg (by omega)], ?_, rfl, rfl⟩
  show (c.out ++ [_]).map kt = (c'.out ++ [_]).map kt
  rw [List.map_append, List.map_append, hs, ht]; rfl
theorem last_sim {l l' : List TokenM} (hs : l.map kt = l'.map kt) : (l.getLast?).map kt = (l'.getLast?).map kt := by
  rw [← List.getLast?_map, ← List.getLast?_map, hs]
theorem lineEndM_sim {c c' : CutM} (hs : c.out.map kt = c'.out.map kt) {c1 : CutM} (h : lineEndM c = .ok c1) : ∃ c1', lineEndM c' = .ok c1' ∧ c1.out.map kt = c1'.out.map kt ∧ c1'.pos = c'.pos ∧ c1.pos = c.pos := by
  have hl := last_sim hs
  unfold lineEndM at h ⊢
  cases ho : c.out.getLast? with
  | none =>
    rw [ho] at h hl
    injection h with h; subst h
    cases ho' : c'.out.getLast? with
    | none => exact ⟨c', rfl, hs, rfl, rfl⟩
    | some t' => rw [ho'] at hl; cases hl
  | some t =>
    rw [ho] at h hl
    cases ho' : c'.out.getLast? with
    | none => rw [ho'] at hl; cases hl
    | some t' =>
      rw [ho'] at hl
      injection hl with hl
      injection hl with h1 h2
      dsimp only at h ⊢
      rw [h1, h2] at h
      split at h
      · rename_i he
        rw [if_pos he]
        obtain ⟨c1', k1, k2, k3, k4⟩ := putM_sim (n' := 0) hs rfl h
        exact ⟨c1', k1, k2, k3, k4⟩
      · rename_i he
        rw [if_neg he]
        injection h with h; subst h
        exact ⟨c', rfl, hs, rfl, rfl⟩
theorem ext_same {S S' : ByteArray} {a a' n : Nat} (h : restOf S a = restOf S' a') : S.extract a (a + n) = S'.extract a' (a' + n) := by
  refine (bytes_eq (ext_rest S a n)).trans ?_
  rw [h]
  exact (bytes_eq (ext_rest S' a' n)).symm
theorem step_sim {S S' : ByteArray} {c c' c1 : CutM} (hr : restOf S c.pos = restOf S' c'.pos) (hs : c.out.map kt = c'.out.map kt) (h : stepM S c = .ok c1) : ∃ c1', stepM S' c' = .ok c1' ∧ c1.out.map kt = c1'.out.map kt ∧ restOf S c1.pos = restOf S' c1'.pos := by
  have hd : ∀ n, restOf S (c.pos + n) = restOf S' (c'.pos + n) := fun n => by rw [← rest_drop, hr, rest_drop]
  unfold stepM at h ⊢
  rw [← hr]
  split at h
  · cases hq : lineEndM c with
    | error e => rw [hq] at h; cases h
    | ok c2 =>
      rw [hq] at h
      injection h with h; subst h
      obtain ⟨c2', k1, k2, k3, k4⟩ := lineEndM_sim hs hq
      rw [k1]
      refine ⟨_, rfl, k2, ?_⟩
      show restOf S (c2.pos + 1) = restOf S' (c2'.pos + 1)
      rw [k3, k4]; exact hd 1
  · rename_i n hn
    injection h with h; subst h
    exact ⟨_, rfl, hs, hd n⟩
  · rename_i k n hn
    obtain ⟨c1', k1, k2, k3, k4⟩ := putM_sim (n' := n) hs (ext_same (n := n) hr) h
    exact ⟨c1', k1, k2, by rw [k3, k4]; exact hd n⟩
  · cases h
theorem rest_size {S S' : ByteArray} {a a' : Nat} (h : restOf S a = restOf S' a') : (a < S.size ↔ a' < S'.size) := by
  have := congrArg List.length h
  rw [rest_len, rest_len] at this
  omega
theorem Runs.sim {S S' : ByteArray} {c : CutM} {r : Except Err (List TokenM)} (h : Runs S c r) : ∀ (c' : CutM) (l : List TokenM), r = .ok l → restOf S c.pos = restOf S' c'.pos → c.out.map kt = c'.out.map kt → ∃ l', Runs S' c' (.ok l') ∧ l.map kt = l'.map kt := by
  induction h with
  | @fin c hf =>
    intro c' l hl hr hs
    cases hq : lineEndM c with
    | error e => rw [hq] at hl; cases hl
    | ok c2 =>
      rw [hq] at hl
      injection hl with hl; subst hl
      obtain ⟨c2', k1, k2, _⟩ := lineEndM_sim hs hq
      have := rest_size hr
      refine ⟨c2'.out, ?_, k2⟩
      have h := Runs.fin (S := S') (c := c') (by omega)
      rw [k1] at h; exact h
  | @step c c1 r h1 h2 h3 ih =>
    intro c' l hl hr hs
    obtain ⟨c1', k1, k2, k3⟩ := step_sim hr hs h2
    obtain ⟨l', k4, k5⟩ := ih c1' l hl k3 k2
    exact ⟨l', .step ((rest_size hr).1 h1) k1 k4, k5⟩
  | bad _ _ => intro c' l hl; cases hl
/-! ### what stands behind does not turn what is cut ahead -/
/-- What may stand behind instead: nothing, or a blank first. -/
def Soft (v : Bs) : Prop := v = [] ∨ ∃ r, v = 32 :: r
theorem span_app {p : UInt8 → Bool} : ∀ (x v : Bs), span_ p (x ++ v) = if span_ p x = x.length then x.length + span_ p v else span_ p x
  | [], v => by simp [span_]
  | b :: x, v => by
    have ih := span_app (p := p) x v
    by_cases hb : p b = true
    · rw [List.cons_append, span_cons hb, span_cons hb, ih]
      by_cases h : span_ p x = x.length
      · rw [if_pos h, if_pos (by simp [h])]; simp; omega
      · rw [if_neg h, if_neg (by simp; exact h)]
    · have hb' : p b = false := by cases h : p b with | true => exact absurd h hb | false => rfl
      rw [List.cons_append, span_stop hb', span_stop hb', if_neg (by simp)]
theorem span_loc {p : UInt8 → Bool} {x v v' : Bs} (hn : span_ p (x ++ v) ≤ x.length) (hv : span_ p v' = 0) : span_ p (x ++ v') = span_ p (x ++ v) ∧ (span_ p (x ++ v) = x.length → span_ p v = 0) := by
  rw [span_app] at hn ⊢
  rw [span_app]
  have := span_le p x
  by_cases h : span_ p x = x.length
  · rw [if_pos h] at hn ⊢
    rw [if_pos h]
    exact ⟨by omega, fun _ => by omega⟩
  · rw [if_neg h, if_neg h]
    exact ⟨rfl, fun h2 => absurd h2 h⟩
theorem soft_word {v : Bs} (h : Soft v) : span_ wordB v = 0 := by
  rcases h with rfl | ⟨r, rfl⟩
  · rfl
  · exact span_stop (by decide)
theorem txt_loc : ∀ (n : Nat) (y v v' : Bs) (k : Nat), y.length ≤ n → txtLen (y ++ v) = some k → k < y.length → txtLen (y ++ v') = some k
  | _, [], v, v', k, _, _, hk => by simp at hk
  | _, [c], v, v', k, _, h, hk => by
    have hk0 : k = 0 := by simp at hk; exact hk
    subst hk0
    by_cases hc : c = 34
    · subst hc; exact txt_end _
    · exfalso
      cases v with
      | nil => simp [txtLen, hc] at h
      | cons d r =>
        rw [List.singleton_append, txtLen, if_neg hc] at h
        split at h
        · cases h
        · split at h
          · cases hr : txtLen r with
            | none => rw [hr] at h; cases h
            | some j => rw [hr] at h; simp at h
          · cases hr : txtLen (d :: r) with
            | none => rw [hr] at h; cases h
            | some j => rw [hr] at h; simp at h
  | 0, c :: d :: r, v, v', k, hn, _, _ => by simp at hn
  | n + 1, c :: d :: r, v, v', k, hn, h, hk => by
    rw [List.cons_append, List.cons_append, txtLen] at h ⊢
    by_cases h1 : c = 34
    · rw [if_pos h1] at h ⊢; exact h
    rw [if_neg h1] at h ⊢
    by_cases h2 : c = 10
    · rw [if_pos h2] at h; cases h
    rw [if_neg h2] at h ⊢
    by_cases h3 : c = 92
    · rw [if_pos h3] at h ⊢
      cases hr : txtLen (r ++ v) with
      | none => rw [hr] at h; cases h
      | some j =>
        rw [hr] at h
        injection h with h
        have h' : j + 2 = k := h
        rw [txt_loc n r v v' j (by simp at hn; omega) hr (by simp at hk; omega)]
        exact congrArg some h'
    · rw [if_neg h3] at h ⊢
      cases hr : txtLen (d :: (r ++ v)) with
      | none => rw [hr] at h; cases h
      | some j =>
        rw [hr] at h
        injection h with h
        have h' : j + 1 = k := h
        have := txt_loc n (d :: r) v v' j (by simp at hn ⊢; omega) hr (by simp at hk ⊢; omega)
        rw [List.cons_append] at this
        rw [this]
        exact congrArg some h'
theorem sign_loc {x v v' : Bs} (hx : x ≠ []) (hs : Soft v') (hn : signLen (x ++ v) ≤ x.length) : signLen (x ++ v') = signLen (x ++ v) := by
  match x, hx, hn with
  | [a], _, hn =>
    have h2 : ∀ b : UInt8, ∀ r : Bs, signLen (a :: b :: r) ≤ 1 → signLen (a :: b :: r) = if signs1.contains a then 1 else 0 := by
      intro b r h
      simp only [signLen] at h ⊢
      by_cases hc : signs2.contains [a, b] = true
      · rw [if_pos hc] at h; omega
      · rw [if_neg hc]
    have e1 : signLen ([a] ++ v) = if signs1.contains a then 1 else 0 := by
      cases v with
      | nil => rfl
      | cons b r => exact h2 b r hn
    have e2 : signLen ([a] ++ v') = if signs1.contains a then 1 else 0 := by
      rcases hs with rfl | ⟨r, rfl⟩
      · rfl
      · show signLen (a :: 32 :: r) = _
        simp only [signLen]
        rw [if_neg (by simp [signs2])]
    rw [e1, e2]
  | a :: b :: r, _, hn => rfl
theorem head_app {x v : Bs} (hx : x ≠ []) : (x ++ v).head? = x.head? := by
  cases x with
  | nil => exact absurd rfl hx
  | cons a r => rfl
/-- What a step cuts of x stays, whatever soft stands behind x; a remark may go on. -/
theorem lex_loc {x v v' : Bs} (hx : x ≠ []) (hs : Soft v') :
    (lex (x ++ v) = .nl → lex (x ++ v') = .nl) ∧
    (∀ n, lex (x ++ v) = .skip n → n ≤ x.length → lex (x ++ v') = .skip n ∨ (n = x.length ∧ lex (x ++ v') = .skip (n + span_ noNl v') ∧ span_ noNl v = 0)) ∧
    (∀ k n, lex (x ++ v) = .tok k n → n ≤ x.length → lex (x ++ v') = .tok k n) := by
  cases x with
  | nil => exact absurd rfl hx
  | cons c y =>
    rw [List.cons_append, List.cons_append]
    by_cases h1 : c = 10
    · subst h1
      rw [lex_nl, lex_nl]
      exact ⟨fun h => h, fun n h => (by cases h), fun k n h => (by cases h)⟩
    by_cases h2 : c = 32 ∨ c = 9 ∨ c = 13
    · rw [lex_blank _ h1 h2, lex_blank _ h1 h2]
      exact ⟨fun h => h, fun n h _ => .inl h, fun k n h => (by cases h)⟩
    by_cases h3 : c = 47 ∧ (y ++ v).head? = some 47
    · rw [lex_remark h1 h2 h3]
      refine ⟨fun h => (by cases h), fun n h hn => ?_, fun k n h => (by cases h)⟩
      injection h with h
      have hy : y ≠ [] := by
        rintro rfl
        have e2 : span_ noNl (c :: ([] ++ v)) = span_ noNl ([] ++ v) + 1 := span_cons (by rw [h3.1]; decide)
        have e3 : 1 ≤ span_ noNl ([] ++ v) := by
          obtain ⟨_, hh⟩ := h3
          cases v with
          | nil => cases hh
          | cons b r =>
            have hb : b = 47 := by simpa using hh
            subst hb
            rw [List.nil_append, span_cons (by decide)]; omega
        simp at hn; omega
      have h3' : c = 47 ∧ (y ++ v').head? = some 47 := ⟨h3.1, by rw [head_app hy]; rw [head_app hy] at h3; exact h3.2⟩
      rw [lex_remark h1 h2 h3']
      rw [← List.cons_append] at h
      rw [← List.cons_append]
      by_cases hlt : n < (c :: y).length
      · left
        rw [span_app] at h
        rw [span_app]
        by_cases hf : span_ noNl (c :: y) = (c :: y).length
        · rw [if_pos hf] at h; omega
        · rw [if_neg hf] at h ⊢; rw [h]
      · right
        have hl := span_le noNl (c :: y)
        rw [span_app] at h
        rw [span_app]
        by_cases hf : span_ noNl (c :: y) = (c :: y).length
        · rw [if_pos hf] at h ⊢
          exact ⟨by omega, by rw [show (c :: y).length = n by omega], by omega⟩
        · rw [if_neg hf] at h; omega
    have h3' : ¬ (c = 47 ∧ (y ++ v').head? = some 47) := by
      rintro ⟨e1, e2⟩
      by_cases hy : y = []
      · subst hy
        rcases hs with rfl | ⟨r, rfl⟩
        · cases e2
        · revert e2; simp
      · rw [head_app hy] at e2
        exact h3 ⟨e1, by rw [head_app hy]; exact e2⟩
    cases h4 : letterB c with
    | true =>
      rw [lex_name h1 h2 h3 h4, lex_name h1 h2 h3' h4, ← List.cons_append, ← List.cons_append]
      refine ⟨fun h => ?_, fun n h => ?_, fun k n h hn => ?_⟩
      · split at h <;> cases h
      · split at h <;> cases h
      · split at h
        · cases h
        · rename_i hh
          injection h with ha hb
          have hloc := (span_loc (v' := v') (by rw [hb]; exact hn) (soft_word hs)).1
          rw [hloc, if_neg hh, hb, List.take_append_of_le_length hn]
          rw [hb, List.take_append_of_le_length hn] at ha
          rw [ha]
    | false =>
      cases h5 : digitB c with
      | true =>
        rw [lex_number h1 h2 h3 h4 h5, lex_number h1 h2 h3' h4 h5, ← List.cons_append, ← List.cons_append]
        refine ⟨fun h => ?_, fun n h => ?_, fun k n h hn => ?_⟩
        · split at h <;> cases h
        · split at h <;> cases h
        · split at h
          · rename_i hh
            injection h with ha hb
            have hloc := (span_loc (v' := v') (by rw [hb]; exact hn) (soft_word hs)).1
            rw [hb, List.take_append_of_le_length hn] at hh
            rw [hloc, hb, List.take_append_of_le_length hn, if_pos hh, ha]
          · cases h
      | false =>
        by_cases h6 : c = 34
        · subst h6
          rw [lex_text, lex_text]
          cases ht : txtLen (y ++ v) with
          | none => exact ⟨fun h => (by cases h), fun n h => (by cases h), fun k n h => (by cases h)⟩
          | some j =>
            dsimp only
            refine ⟨fun h => ?_, fun n h => ?_, fun k n h hn => ?_⟩
            · split at h <;> cases h
            · split at h <;> cases h
            · split at h
              · rename_i ho
                injection h with ha hb
                have hj : j < y.length := by simp at hn; omega
                rw [List.take_append_of_le_length (by omega)] at ho
                rw [txt_loc _ y v v' j (Nat.le_refl _) ht hj]
                dsimp only
                rw [List.take_append_of_le_length (by omega), if_pos ho, ha, hb]
              · cases h
        · by_cases h7 : c = 59
          · subst h7
            rw [lex_semi, lex_semi]
            exact ⟨fun h => h, fun n h => (by cases h), fun k n h _ => h⟩
          · rw [lex_sign h1 h2 h3 h4 h5 h6 h7, lex_sign h1 h2 h3' h4 h5 h6 h7, ← List.cons_append, ← List.cons_append]
            refine ⟨fun h => ?_, fun n h => ?_, fun k n h hn => ?_⟩
            · split at h <;> cases h
            · split at h <;> cases h
            · split at h
              · cases h
              · rename_i hh
                injection h with ha hb
                have hloc := sign_loc (v := v) (v' := v') hx hs (by rw [hb]; exact hn)
                rw [hloc, if_neg hh, ha, hb]
end Go.Proofs.Ytlfgofjmcegeiaa
