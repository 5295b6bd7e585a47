/-
  The shown text of tokens is cut into these tokens: in plain Lean. No condition.
-/
import Derived.Test.YtlfgofjmcegeiaaScanA
namespace Go.Proofs.Ytlfgofjmcegeiaa
open Go.RowKit
set_option linter.unusedVariables false
set_option linter.unusedSimpArgs false

/-- A text is wholly one token of its kind. -/
def WholeP (t : TokenM) : Prop := if t.kind = 6 then t.text = semiB else ∃ l x, ToksM t.text (.ok l) ∧ (l.length = 1 ∨ l.length = 2) ∧ l[0]? = some x ∧ x.kind = t.kind ∧ x.text = t.text ∧ (l.length = 1 ∨ endsT x.kind x.text = true)
theorem WholeP.size {t : TokenM} (h : WholeP t) : t.text.size ≤ 8000 := by
  unfold WholeP at h
  by_cases h6 : t.kind = 6
  · rw [if_pos h6] at h; rw [h]; decide
  · rw [if_neg h6] at h
    obtain ⟨l, x, hT, _⟩ := h
    exact hT.placed.2.2
/-- The shown text; a blank ahead of the first if it is wanted. -/
def showG : Bool → List TokenM → Bs
  | _, [] => []
  | b, t :: r => (if b then [32] else []) ++ (t.text.data.toList ++ (if t.kind = 6 then 10 :: showG false r else showG true r))
theorem Runs.grows {S : ByteArray} {c : CutM} {r : Except Err (List TokenM)} (h : Runs S c r) : ∀ l, r = .ok l → ∃ m, l = c.out ++ m := by
  have pg : ∀ {c c1 : CutM} {k : Int} {t : ByteArray} {n : Nat}, putM c k t n = .ok c1 → ∃ m, c1.out = c.out ++ m := by
    intro c c1 k t n h
    obtain ⟨_, rfl⟩ := putM_ok h
    exact ⟨_, rfl⟩
  have lg : ∀ {c c1 : CutM}, lineEndM c = .ok c1 → ∃ m, c1.out = c.out ++ m := by
    intro c c1 h
    rcases lineEndM_ok h with rfl | h
    · exact ⟨[], by simp⟩
    · exact pg h
  induction h with
  | @fin c hf =>
    intro l hl
    cases hq : lineEndM c with
    | error e => rw [hq] at hl; cases hl
    | ok c2 =>
      rw [hq] at hl
      injection hl with hl; subst hl
      exact lg hq
  | @step c c1 r h1 h2 h3 ih =>
    intro l hl
    obtain ⟨m, hm⟩ := ih l hl
    have : ∃ m1, c1.out = c.out ++ m1 := by
      unfold stepM at h2
      split at h2
      · cases hq : lineEndM c with
        | error e => rw [hq] at h2; cases h2
        | ok c2 =>
          rw [hq] at h2
          injection h2 with h2; subst h2
          have hh := lg hq
          exact hh
      · injection h2 with h2; subst h2; exact ⟨[], by simp⟩
      · exact pg h2
      · cases h2
    obtain ⟨m1, hm1⟩ := this
    exact ⟨m1 ++ m, by rw [hm, hm1, List.append_assoc]⟩
  | bad h1 h2 => intro l hl; cases hl
theorem Runs.short {S : ByteArray} {c : CutM} {r : Except Err (List TokenM)} (h : Runs S c r) : ∀ l, r = .ok l → 1 ≤ c.pos → (∀ t ∈ c.out, t.kind = 6 ∨ t.text.size < S.size) → ∀ t ∈ l, t.kind = 6 ∨ t.text.size < S.size := by
  have pg : ∀ {c c1 : CutM} {k : Int} {t : ByteArray} {n : Nat}, putM c k t n = .ok c1 → (k = 6 ∨ t.size < S.size) → (∀ t ∈ c.out, t.kind = 6 ∨ t.text.size < S.size) → ∀ t ∈ c1.out, t.kind = 6 ∨ t.text.size < S.size := by
    intro c c1 k t n h hq ho x hx
    obtain ⟨_, rfl⟩ := putM_ok h
    rcases List.mem_append.1 hx with hx | hx
    · exact ho x hx
    · rw [List.mem_singleton] at hx; subst hx; exact hq
  have lg : ∀ {c c1 : CutM}, lineEndM c = .ok c1 → (∀ t ∈ c.out, t.kind = 6 ∨ t.text.size < S.size) → ∀ t ∈ c1.out, t.kind = 6 ∨ t.text.size < S.size := by
    intro c c1 h ho
    rcases lineEndM_ok h with rfl | h
    · exact ho
    · exact pg h (.inl rfl) ho
  induction h with
  | @fin c hf =>
    intro l hl hp ho
    cases hq : lineEndM c with
    | error e => rw [hq] at hl; cases hl
    | ok c2 =>
      rw [hq] at hl
      injection hl with hl; subst hl
      exact lg hq ho
  | @step c c1 r h1 h2 h3 ih =>
    intro l hl hp ho
    have hne : restOf S c.pos ≠ [] := by rw [rest_cons h1]; exact List.cons_ne_nil _ _
    obtain ⟨g1, g2, g3⟩ := lex_len hne
    rw [rest_len] at g1 g2
    unfold stepM at h2
    split at h2
    · cases hq : lineEndM c with
      | error e => rw [hq] at h2; cases h2
      | ok c2 =>
        rw [hq] at h2
        injection h2 with h2; subst h2
        have hh := lg hq ho
        exact ih l hl (by show 1 ≤ c2.pos + 1; omega) hh
    · injection h2 with h2; subst h2
      exact ih l hl (by show 1 ≤ c.pos + _; omega) ho
    · rename_i k n hn
      have hz := g2 k n hn
      have hsz : (S.extract c.pos (c.pos + n)).size = n := by rw [ext_size (by omega) (by omega)]; omega
      refine ih l hl ?_ (pg h2 (.inr (by omega)) ho)
      obtain ⟨_, rfl⟩ := putM_ok h2
      show 1 ≤ c.pos + n; omega
    · cases h2
  | bad h1 h2 => intro l hl; cases hl
/-- What is wholly one token is taken as it, at its beginning. -/
theorem whole_lex {t : TokenM} (h : WholeP t) (h6 : t.kind ≠ 6) : lex t.text.data.toList = .tok t.kind t.text.size ∧ 0 < t.text.size := by
  unfold WholeP at h
  rw [if_neg h6] at h
  obtain ⟨l, x, hT, hl, hx, hk, ht, _⟩ := h
  have h8 : ¬ 8000 < t.text.size := by have := hT.placed; omega
  have hr : Runs t.text cut0 (.ok l) := by unfold ToksM at hT; rw [if_neg h8] at hT; exact hT
  have hpos : 0 < t.text.size := by
    rcases Nat.eq_zero_or_pos t.text.size with h0 | h0
    · exfalso
      obtain ⟨d, d2, q1, q2, q3, q4⟩ := hr.final l rfl
      cases q1 with
      | refl =>
        have e : lineEndM cut0 = .ok cut0 := rfl
        rw [e] at q3
        injection q3 with q3
        rw [q4, ← q3] at hl
        simp [cut0] at hl
      | step h1 _ _ =>
        have h1' : 0 < t.text.size := h1
        omega
    · exact h0
  refine ⟨?_, hpos⟩
  have hmem : x ∈ l := List.mem_of_getElem? hx
  have notQ : ¬ (x.kind = 6 ∨ x.text.size < t.text.size) := by
    rintro (e | e)
    · exact h6 (hk.symm.trans e)
    · rw [ht] at e; omega
  cases hr with
  | fin hf =>
    have hf' : t.text.size ≤ 0 := hf
    omega
  | @step _ c1 _ h1 h2 h3 =>
    have hne : restOf t.text 0 ≠ [] := by rw [rest_cons hpos]; exact List.cons_ne_nil _ _
    obtain ⟨g1, g2, g3⟩ := lex_len hne
    rw [rest_len] at g1 g2
    unfold stepM at h2
    split at h2
    · exfalso
      injection h2 with h2
      subst h2
      exact notQ (h3.short l rfl (by show 1 ≤ (0 : Nat) + 1; omega) (fun t ht => by cases ht) x hmem)
    · rename_i n hn
      exfalso
      injection h2 with h2
      subst h2
      have := g1 n hn
      exact notQ (h3.short l rfl (by show 1 ≤ (0 : Nat) + n; omega) (fun t ht => by cases ht) x hmem)
    · rename_i k n hn
      obtain ⟨m, hm⟩ := h3.grows l rfl
      obtain ⟨_, rfl⟩ := putM_ok h2
      rw [hm] at hx
      have hx2 : x = ⟨k, t.text.extract 0 (0 + n), 1, 1⟩ := by
        have e : (([] : List TokenM) ++ [⟨k, t.text.extract 0 (0 + n), 1, 1⟩] ++ m)[0]? = some x := hx
        simp at e
        exact e.symm.trans (by simp)
      have hz := g2 k n hn
      have hsz : (t.text.extract 0 (0 + n)).size = n := by rw [ext_size (by omega) (by omega)]; omega
      have e1 : n = t.text.size := by rw [← ht, hx2]; exact hsz.symm
      have e2 : k = t.kind := by rw [← hk, hx2]
      show lex (restOf t.text 0) = _
      have hn' : lex (restOf t.text 0) = .tok k n := hn
      rw [hn', e1, e2]
    · cases h2
theorem soft_show (r : List TokenM) : Soft (showG true r) := by
  cases r with
  | nil => exact .inl rfl
  | cons t r => exact .inr ⟨_, rfl⟩
/-- The shown text, cut from a state on. -/
theorem show_runs {S : ByteArray} (hS : S.size ≤ 8000) : ∀ (l : List TokenM) (b : Bool) (c : CutM), restOf S c.pos = showG b l → c.pos ≤ S.size → (∀ t ∈ l, WholeP t) → c.out.length + l.length ≤ 2000 → ∃ d, Reach S c d ∧ d.pos = S.size ∧ d.out.map kt = c.out.map kt ++ l.map kt
  | [], b, c, hr, hp, _, _ => by
    have : S.size - c.pos = 0 := by have := congrArg List.length hr; rw [rest_len] at this; simpa [showG] using this
    exact ⟨c, .refl, by omega, by simp⟩
  | t :: r, b, c, hr, hp, hw, hn => by
    have hwt := hw t (by simp)
    -- behind the blank
    obtain ⟨c0, r0, h0, p0, o0⟩ : ∃ c0, Reach S c c0 ∧ restOf S c0.pos = t.text.data.toList ++ (if t.kind = 6 then 10 :: showG false r else showG true r) ∧ c0.pos ≤ S.size ∧ c0.out = c.out := by
      cases b with
      | false => exact ⟨c, .refl, by rw [hr]; simp [showG], hp, rfl⟩
      | true =>
        have hr' : restOf S c.pos = 32 :: (t.text.data.toList ++ (if t.kind = 6 then 10 :: showG false r else showG true r)) := by rw [hr]; simp [showG]
        have hl : c.pos < S.size := by have := congrArg List.length hr'; rw [rest_len] at this; simp at this; omega
        refine ⟨{ c with pos := c.pos + 1, col := c.col + 1 }, .step hl (step_blank hr' (by decide) (.inl rfl)) .refl, ?_, hl, rfl⟩
        show restOf S (c.pos + 1) = _
        rw [← rest_drop, hr']
        exact List.drop_succ_cons ..
    have hzt : t.text.data.toList.length = t.text.size := by rw [Array.length_toList]; rfl
    have hfit : c0.pos + t.text.size ≤ S.size := by
      have := congrArg List.length h0
      rw [rest_len, List.length_append, hzt] at this; omega
    have htx : S.extract c0.pos (c0.pos + t.text.size) = t.text := by
      refine (bytes_eq (ext_rest S c0.pos t.text.size)).trans ?_
      rw [h0, List.take_left' hzt]
    have ho0 : c0.out.length ≠ 2000 := by rw [o0]; simp at hn; omega
    have hput : ∀ n, putM c0 t.kind t.text n = .ok { c0 with pos := c0.pos + n, col := c0.col + n, out := c0.out ++ [⟨t.kind, t.text, c0.line, c0.col⟩] } := fun n => by unfold putM; rw [if_neg ho0]
    have hrest1 : restOf S (c0.pos + t.text.size) = (if t.kind = 6 then 10 :: showG false r else showG true r) := by
      rw [← rest_drop, h0, List.drop_left' hzt]
    by_cases h6 : t.kind = 6
    · have hsb : t.text = semiB := by unfold WholeP at hwt; rw [if_pos h6] at hwt; exact hwt
      have hz1 : t.text.size = 1 := by rw [hsb]; rfl
      rw [if_pos h6] at hrest1 h0
      have h0' : restOf S c0.pos = 59 :: (10 :: showG false r) := by rw [h0, hsb]; rfl
      have hl : c0.pos < S.size := by omega
      have s1 : stepM S c0 = .ok { c0 with pos := c0.pos + 1, col := c0.col + (1 : Nat), out := c0.out ++ [⟨t.kind, t.text, c0.line, c0.col⟩] } := by
        rw [step_semi h0', ← hput 1, ← h6]
        congr 1
        rw [← hz1]; exact htx
      rw [hz1] at hrest1
      have hl2 : c0.pos + 1 < S.size := by have := congrArg List.length hrest1; rw [rest_len] at this; simp at this; omega
      have s2 := step_nl (S := S) (c := { c0 with pos := c0.pos + 1, col := c0.col + (1 : Nat), out := c0.out ++ [⟨t.kind, t.text, c0.line, c0.col⟩] }) hrest1
      have hle : lineEndM { c0 with pos := c0.pos + 1, col := c0.col + (1 : Nat), out := c0.out ++ [⟨t.kind, t.text, c0.line, c0.col⟩] } = .ok { c0 with pos := c0.pos + 1, col := c0.col + (1 : Nat), out := c0.out ++ [⟨t.kind, t.text, c0.line, c0.col⟩] } := by
        unfold lineEndM
        rw [show (c0.out ++ [(⟨t.kind, t.text, c0.line, c0.col⟩ : TokenM)]).getLast? = some ⟨t.kind, t.text, c0.line, c0.col⟩ by simp]
        dsimp only
        rw [if_neg]
        unfold endsT
        rw [h6]; simp
      rw [hle] at s2
      obtain ⟨d, k1, k2, k3⟩ := show_runs hS r false { c0 with pos := c0.pos + 1 + 1, line := c0.line + 1, col := 1, out := c0.out ++ [⟨t.kind, t.text, c0.line, c0.col⟩] } (by show restOf S (c0.pos + 1 + 1) = _; rw [← rest_drop, hrest1]; rfl) (by show c0.pos + 1 + 1 ≤ _; omega) (fun x hx => hw x (by simp [hx])) (by show (c0.out ++ [_]).length + r.length ≤ 2000; rw [List.length_append, o0, List.length_singleton]; simp at hn; omega)
      refine ⟨d, r0.trans (.step hl s1 (.step hl2 s2 k1)), k2, ?_⟩
      rw [k3]
      show (c0.out ++ [_]).map kt ++ r.map kt = _
      rw [List.map_append, o0]; simp [kt]
    · obtain ⟨hlx, hz0⟩ := whole_lex hwt h6
      rw [if_neg h6] at hrest1 h0
      have hl : c0.pos < S.size := by omega
      have hne : t.text.data.toList ≠ [] := by intro e; rw [e] at hzt; simp at hzt; omega
      have hlex : lex (restOf S c0.pos) = .tok t.kind t.text.size := by
        rw [h0]
        exact (lex_loc (v := []) hne (soft_show r)).2.2 t.kind t.text.size (by rw [List.append_nil]; exact hlx) (by rw [hzt]; exact Nat.le_refl _)
      have s1 : stepM S c0 = .ok { c0 with pos := c0.pos + t.text.size, col := c0.col + t.text.size, out := c0.out ++ [⟨t.kind, t.text, c0.line, c0.col⟩] } := by
        unfold stepM
        rw [hlex]
        show putM c0 t.kind (S.extract c0.pos (c0.pos + t.text.size)) t.text.size = _
        rw [htx]; exact hput _
      obtain ⟨d, k1, k2, k3⟩ := show_runs hS r true { c0 with pos := c0.pos + t.text.size, col := c0.col + t.text.size, out := c0.out ++ [⟨t.kind, t.text, c0.line, c0.col⟩] } hrest1 hfit (fun x hx => hw x (by simp [hx])) (by show (c0.out ++ [_]).length + r.length ≤ 2000; rw [List.length_append, o0, List.length_singleton]; simp at hn; omega)
      refine ⟨d, r0.trans (.step hl s1 k1), k2, ?_⟩
      rw [k3]
      show (c0.out ++ [_]).map kt ++ r.map kt = _
      rw [List.map_append, o0]; simp [kt]
/-- The shown text is cut into the tokens; a semicolon may stand at the end, or be one too many. -/
theorem back_law {l : List TokenM} {r : Except Err (List TokenM)} (hw : ∀ t ∈ l, WholeP t) (hn : l.length ≤ 2000) (hz : (showG false l).length ≤ 8000) (h : ToksM ⟨(showG false l).toArray⟩ r) : (∃ l', r = .ok l' ∧ Like l l' true) ∨ (l.length = 2000 ∧ ∃ a b, r = .error (15, a, b)) := by
  have hsz : (⟨(showG false l).toArray⟩ : ByteArray).size = (showG false l).length := by simp [ByteArray.size]
  have hr : Runs ⟨(showG false l).toArray⟩ cut0 r := by
    unfold ToksM at h; rw [if_neg (by omega)] at h; exact h
  obtain ⟨d, k1, k2, k3⟩ := show_runs (S := ⟨(showG false l).toArray⟩) (by omega) l false cut0 (by unfold restOf; simp [cut0]) (Nat.zero_le _) hw (by simpa [cut0] using hn)
  have hd := k1.rest hr
  have hf := Runs.fin (S := ⟨(showG false l).toArray⟩) (c := d) (by omega)
  have he := hd.det hf
  have hmap : d.out.map kt = l.map kt := by rw [k3]; simp [cut0]
  have hlen : d.out.length = l.length := by have := congrArg List.length hmap; simpa using this
  cases hq : lineEndM d with
  | ok d2 =>
    rw [hq] at he
    left
    refine ⟨d2.out, he, ?_⟩
    rcases lineEndM_ok hq with rfl | hp
    · exact .inl hmap.symm
    · obtain ⟨_, rfl⟩ := putM_ok hp
      refine .inr ⟨rfl, (6, semiB), rfl, ?_⟩
      show (d.out ++ [_]).map kt = _
      rw [List.map_append, hmap]; rfl
  | error er =>
    rw [hq] at he
    right
    have e15 := lineEndM_err hq
    refine ⟨?_, er.2.1, er.2.2, by rw [he, e15]⟩
    unfold lineEndM at hq
    split at hq
    · split at hq
      · unfold putM at hq
        split at hq
        · rename_i h2; omega
        · cases hq
      · cases hq
    · cases hq
end Go.Proofs.Ytlfgofjmcegeiaa
