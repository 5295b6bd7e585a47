/-
  Blanks ahead of a token, a remark at the end: the tokens stay. In plain Lean. No condition.
-/
import Derived.Test.YtlfgofjmcegeiaaScanR
namespace Go.Proofs.Ytlfgofjmcegeiaa
open Go.RowKit
set_option linter.unusedVariables false
set_option linter.unusedSimpArgs false

theorem rest_split (S : ByteArray) {a p : Nat} (h : a ≤ p) (hp : p ≤ S.size) : restOf S a = (S.data.toList.take p).drop a ++ restOf S p ∧ ((S.data.toList.take p).drop a).length = p - a := by
  have hl : (S.data.toList.take p).length = p := by rw [List.length_take, Array.length_toList]; exact Nat.min_eq_left hp
  refine ⟨?_, by rw [List.length_drop, hl]⟩
  have e := List.take_append_drop p S.data.toList
  unfold restOf
  conv => lhs; rw [← e]
  rw [List.drop_append_of_le_length (by omega)]
theorem ext_take_same {S S' : ByteArray} {a n : Nat} (h : (restOf S a).take n = (restOf S' a).take n) : S.extract a (a + n) = S'.extract a (a + n) := by
  refine (bytes_eq (ext_rest S a n)).trans ?_
  rw [h]
  exact (bytes_eq (ext_rest S' a n)).symm
theorem step_loc {S S' : ByteArray} {c c1 : CutM} {p : Nat} (hp : p ≤ S.size) (hp' : p ≤ S'.size) (ha : S.data.toList.take p = S'.data.toList.take p) (hs : Soft (restOf S' p)) (hc : c.pos < p) (h1 : c1.pos ≤ p) (h : stepM S c = .ok c1) :
    stepM S' c = .ok c1 ∨ (c1.pos = p ∧ span_ noNl (restOf S p) = 0 ∧ stepM S' c = .ok { c1 with pos := p + span_ noNl (restOf S' p), col := c1.col + (span_ noNl (restOf S' p) : Nat) }) := by
  obtain ⟨e1, l1⟩ := rest_split S (Nat.le_of_lt hc) hp
  obtain ⟨e2, l2⟩ := rest_split S' (Nat.le_of_lt hc) hp'
  rw [← ha] at e2 l2
  generalize hx : (S.data.toList.take p).drop c.pos = x at e1 e2 l1
  have hne : x ≠ [] := by rintro rfl; simp at l1; omega
  obtain ⟨g1, g2, g3⟩ := lex_loc (v := restOf S p) hne hs
  rw [← e1, ← e2] at g1 g2 g3
  unfold stepM at h ⊢
  split at h
  · rename_i hn
    left
    rw [g1 hn]; exact h
  · rename_i n hn
    injection h with h
    subst h
    have hn2 : n ≤ x.length := by have : c.pos + n ≤ p := h1; omega
    rcases g2 n hn hn2 with g | ⟨g4, g5, g6⟩
    · left; rw [g]
    · right
      have hpn : c.pos + n = p := by omega
      refine ⟨hpn, g6, ?_⟩
      rw [g5]
      show Except.ok _ = Except.ok _
      congr 1
      show CutM.mk (c.pos + (n + _)) c.line (c.col + ((n + _ : Nat) : Int)) c.out = CutM.mk (p + _) c.line (c.col + (n : Int) + _) c.out
      congr 1
      · omega
      · omega
  · rename_i k n hn
    left
    obtain ⟨hq, hc1⟩ := putM_ok h
    have hn2 : n ≤ x.length := by rw [hc1] at h1; have : c.pos + n ≤ p := h1; omega
    rw [g3 k n hn hn2]
    have e3 : S.extract c.pos (c.pos + n) = S'.extract c.pos (c.pos + n) := ext_take_same (by rw [e1, e2, List.take_append_of_le_length hn2, List.take_append_of_le_length hn2])
    show putM c k (S'.extract c.pos (c.pos + n)) n = _
    rw [← e3]; exact h
  · cases h
theorem reach_loc {S S' : ByteArray} {c d : CutM} {p : Nat} (h : Reach S c d) (hi : CInv S c) (hp : p ≤ S.size) (hp' : p ≤ S'.size) (ha : S.data.toList.take p = S'.data.toList.take p) (hs : Soft (restOf S' p)) (hd : d.pos = p) :
    Reach S' c d ∨ (span_ noNl (restOf S p) = 0 ∧ Reach S' c { d with pos := p + span_ noNl (restOf S' p), col := d.col + (span_ noNl (restOf S' p) : Nat) }) := by
  induction h with
  | refl => exact .inl .refl
  | @step c c1 d h1 h2 h3 ih =>
    obtain ⟨k1, k2⟩ := hi.step h1 h2
    obtain ⟨_, k3⟩ := h3.bd k1
    rcases step_loc hp hp' ha hs (by omega) (by omega) h2 with g | ⟨g1, g2, g3⟩
    · rcases ih k1 hd with q | ⟨q1, q2⟩
      · exact .inl (.step (by omega) g q)
      · exact .inr ⟨q1, .step (by omega) g q2⟩
    · have e : c1 = d := by
        cases h3 with
        | refl => rfl
        | step h4 h5 h6 =>
          obtain ⟨m1, m2⟩ := k1.step h4 h5
          obtain ⟨_, m3⟩ := h6.bd m1
          omega
      subst e
      exact .inr ⟨g2, .step (by omega) g3 .refl⟩
theorem blanks_reach {S : ByteArray} : ∀ (j : Nat) (c : CutM) (v : Bs), restOf S c.pos = List.replicate j 32 ++ v → Reach S c { c with pos := c.pos + j, col := c.col + j }
  | 0, c, v, h => by
    have e : ({ c with pos := c.pos + 0, col := c.col + ((0 : Nat) : Int) } : CutM) = c := by simp
    rw [e]; exact .refl
  | j + 1, c, v, h => by
    have h' : restOf S c.pos = 32 :: (List.replicate j 32 ++ v) := by rw [h, List.replicate_succ]; rfl
    have hl : c.pos < S.size := by have := congrArg List.length h'; rw [rest_len] at this; simp at this; omega
    have hr : restOf S (c.pos + 1) = List.replicate j 32 ++ v := by rw [← rest_drop, h']; rfl
    have ih := blanks_reach j { c with pos := c.pos + 1, col := c.col + 1 } v hr
    refine .step hl (step_blank h' (by decide) (.inl rfl)) ?_
    have e : ({ c with pos := c.pos + (j + 1), col := c.col + ((j + 1 : Nat) : Int) } : CutM) = { c with pos := c.pos + 1 + j, col := c.col + 1 + (j : Int) } := by
      congr 1
      · omega
      · omega
    rw [e]; exact ih
theorem span_blank (j : Nat) (v : Bs) : span_ noNl (List.replicate j 32 ++ v) = j + span_ noNl v := by
  induction j with
  | zero => simp
  | succ j ih => rw [List.replicate_succ, List.cons_append, span_cons (by decide), ih]; omega
/-- Blanks ahead of a token change no token but for places. -/
theorem spaces_law {S S' : ByteArray} {l : List TokenM} {d : CutM} {j : Nat} (h : ToksM S (.ok l)) (hd : Reach S cut0 d) (hS : S'.data.toList = S.data.toList.take d.pos ++ (List.replicate j 32 ++ restOf S d.pos)) (hz : S'.size ≤ 8000) : ∃ l', ToksM S' (.ok l') ∧ l.map kt = l'.map kt := by
  have h8 : ¬ 8000 < S.size := by have := h.placed; omega
  have hr : Runs S cut0 (.ok l) := by unfold ToksM at h; rw [if_neg h8] at h; exact h
  obtain ⟨hi, _⟩ := hd.bd (cut0_inv (by omega))
  have hdp := hi.bd.pos
  have hl : (S.data.toList.take d.pos).length = d.pos := by rw [List.length_take, Array.length_toList]; exact Nat.min_eq_left hdp
  have hrest : restOf S' d.pos = List.replicate j 32 ++ restOf S d.pos := by
    unfold restOf; rw [hS, List.drop_left' hl]; rfl
  have hp' : d.pos ≤ S'.size := by
    have := congrArg List.length hS
    rw [List.length_append, hl, Array.length_toList] at this
    show d.pos ≤ S'.data.size; omega
  have ha : S.data.toList.take d.pos = S'.data.toList.take d.pos := by rw [hS, List.take_left' hl]
  have hreach : ∃ d', Reach S' cut0 d' ∧ d'.out = d.out ∧ d'.pos = d.pos + j := by
    cases j with
    | zero =>
      have e : S' = S := by
        have e2 : S'.data.toList = S.data.toList := by
          rw [hS]; unfold restOf
          rw [List.replicate_zero, List.nil_append, List.take_append_drop]
        exact (bytes_eq e2).trans (bytes_eq rfl).symm
      exact ⟨d, by rw [e]; exact hd, rfl, rfl⟩
    | succ j =>
      have hsoft : Soft (restOf S' d.pos) := by rw [hrest]; exact .inr ⟨_, rfl⟩
      rcases reach_loc hd (cut0_inv (by omega)) hdp hp' ha hsoft rfl with q | ⟨q1, q2⟩
      · exact ⟨_, q.trans (blanks_reach (j + 1) d _ hrest), rfl, rfl⟩
      · refine ⟨_, q2, rfl, ?_⟩
        show d.pos + span_ noNl (restOf S' d.pos) = _
        rw [hrest, span_blank, q1]
  obtain ⟨d', r1, r2, r3⟩ := hreach
  obtain ⟨l', k1, k2⟩ := (hd.rest hr).sim (S' := S') d' l rfl (by rw [r3, ← rest_drop, hrest, List.drop_left' (by simp)]) (by rw [r2])
  exact ⟨l', by unfold ToksM; rw [if_neg (by omega)]; exact r1.runs k1, k2⟩
theorem Runs.final {S : ByteArray} {c : CutM} {r : Except Err (List TokenM)} (h : Runs S c r) : ∀ l, r = .ok l → ∃ d d2, Reach S c d ∧ S.size ≤ d.pos ∧ lineEndM d = .ok d2 ∧ l = d2.out := by
  induction h with
  | @fin c hf =>
    intro l hl
    cases hq : lineEndM c with
    | error e => rw [hq] at hl; cases hl
    | ok c2 =>
      rw [hq] at hl
      injection hl with hl; subst hl
      exact ⟨c, c2, .refl, hf, hq, rfl⟩
  | step h1 h2 h3 ih =>
    intro l hl
    obtain ⟨d, d2, k1, k2, k3, k4⟩ := ih l hl
    exact ⟨d, d2, .step h1 h2 k1, k2, k3, k4⟩
  | bad h1 h2 => intro l hl; cases hl
theorem span_nonl {v : Bs} (h : ∀ b ∈ v, b ≠ 10) : span_ noNl v = v.length := by
  induction v with
  | nil => rfl
  | cons b r ih =>
    have hb : noNl b = true := by unfold noNl; rw [bne, beq_eq_false_iff_ne.2 (h b (by simp))]; rfl
    rw [span_cons hb, ih (fun x hx => h x (by simp [hx])), List.length_cons]
/-- A remark of one line at the end changes no token. -/
theorem remarks_law {S S' : ByteArray} {l : List TokenM} {rm : Bs} (h : ToksM S (.ok l)) (hS : S'.data.toList = S.data.toList ++ (32 :: 47 :: 47 :: rm)) (hz : S'.size ≤ 8000) (hm : ∀ b ∈ rm, b ≠ 10) : ∃ l', ToksM S' (.ok l') ∧ l.map kt = l'.map kt := by
  have h8 : ¬ 8000 < S.size := by have := h.placed; omega
  have hr : Runs S cut0 (.ok l) := by unfold ToksM at h; rw [if_neg h8] at h; exact h
  obtain ⟨d, d2, hd, hf, hle, rfl⟩ := hr.final l rfl
  obtain ⟨hi, _⟩ := hd.bd (cut0_inv (by omega))
  have hdp := hi.bd.pos
  have hpe : d.pos = S.size := by omega
  have hl : S.data.toList.length = d.pos := by rw [Array.length_toList, hpe]; rfl
  have hrest : restOf S' d.pos = 32 :: 47 :: 47 :: rm := by
    unfold restOf; rw [hS, List.drop_left' hl]
  have hsz : S'.size = d.pos + (3 + rm.length) := by
    have := congrArg List.length hS
    rw [List.length_append, hl, Array.length_toList] at this
    have e : S'.data.size = S'.size := rfl
    simp at this; omega
  have ha : S.data.toList.take d.pos = S'.data.toList.take d.pos := by
    rw [hS, List.take_left' hl, List.take_of_length_le (by omega)]
  have hsp : span_ noNl (32 :: 47 :: 47 :: rm) = 3 + rm.length := by
    rw [span_nonl (fun b hb => by
      simp at hb
      rcases hb with rfl | rfl | hb
      · decide
      · decide
      · exact hm b hb)]
    simp; omega
  have hreach : ∃ d', Reach S' cut0 d' ∧ d'.out = d.out ∧ S'.size ≤ d'.pos := by
    rcases reach_loc hd (cut0_inv (by omega)) hdp (by omega) ha (by rw [hrest]; exact .inr ⟨_, rfl⟩) rfl with q | ⟨q1, q2⟩
    · have s1 := step_blank (S := S') (c := d) hrest (by decide) (.inl rfl)
      have hr2 : restOf S' (d.pos + 1) = 47 :: 47 :: rm := by rw [← rest_drop, hrest]; rfl
      have s2 := step_remark (S := S') (c := { d with pos := d.pos + 1, col := d.col + 1 }) (b := 47) (r := 47 :: rm) hr2 (by decide) (by decide) ⟨rfl, rfl⟩
      have hsp2 : span_ noNl (47 :: 47 :: rm) = 2 + rm.length := by
        have := hsp
        rw [span_cons (by decide)] at this; omega
      refine ⟨_, q.trans (.step (by omega) s1 (.step (by show d.pos + 1 < S'.size; omega) s2 .refl)), rfl, ?_⟩
      show S'.size ≤ d.pos + 1 + span_ noNl (restOf S' (d.pos + 1))
      rw [hr2, hsp2]; omega
    · refine ⟨_, q2, rfl, ?_⟩
      show S'.size ≤ d.pos + span_ noNl (restOf S' d.pos)
      rw [hrest, hsp]; omega
  obtain ⟨d', r1, r2, r3⟩ := hreach
  obtain ⟨d2', k1, k2, _⟩ := lineEndM_sim (c := d) (c' := d') (by rw [r2]) hle
  refine ⟨d2'.out, ?_, k2⟩
  unfold ToksM
  rw [if_neg (by omega)]
  have hfin := Runs.fin (S := S') (c := d') r3
  rw [k1] at hfin
  exact r1.runs hfin
/-- Each token was put at a state of the run. -/
theorem Runs.spots {S : ByteArray} {c : CutM} {r : Except Err (List TokenM)} (h : Runs S c r) : ∀ l, r = .ok l → CInv S c → Reach S cut0 c → (∀ t ∈ c.out, ∃ d, Reach S cut0 d ∧ posL S d.pos = (t.line, t.col) ∧ d.pos ≤ S.size) → ∀ t ∈ l, ∃ d, Reach S cut0 d ∧ posL S d.pos = (t.line, t.col) ∧ d.pos ≤ S.size := by
  have putS : ∀ {c c1 : CutM} {k : Int} {t : ByteArray} {n : Nat}, CInv S c → Reach S cut0 c → (∀ t ∈ c.out, ∃ d, Reach S cut0 d ∧ posL S d.pos = (t.line, t.col) ∧ d.pos ≤ S.size) → putM c k t n = .ok c1 → ∀ t ∈ c1.out, ∃ d, Reach S cut0 d ∧ posL S d.pos = (t.line, t.col) ∧ d.pos ≤ S.size := by
    intro c c1 k t n hi hr ho hp x hx
    obtain ⟨_, rfl⟩ := putM_ok hp
    rcases List.mem_append.1 hx with hx | hx
    · exact ho x hx
    · rw [List.mem_singleton] at hx; subst hx
      exact ⟨c, hr, hi.at_, hi.bd.pos⟩
  have endS : ∀ {c c1 : CutM}, CInv S c → Reach S cut0 c → (∀ t ∈ c.out, ∃ d, Reach S cut0 d ∧ posL S d.pos = (t.line, t.col) ∧ d.pos ≤ S.size) → lineEndM c = .ok c1 → ∀ t ∈ c1.out, ∃ d, Reach S cut0 d ∧ posL S d.pos = (t.line, t.col) ∧ d.pos ≤ S.size := by
    intro c c1 hi hr ho hp
    rcases lineEndM_ok hp with rfl | hq
    · exact ho
    · exact putS hi hr ho hq
  induction h with
  | @fin c hf =>
    intro l hl hi hr ho
    cases hq : lineEndM c with
    | error e => rw [hq] at hl; cases hl
    | ok c2 =>
      rw [hq] at hl
      injection hl with hl; subst hl
      exact endS hi hr ho hq
  | @step c c1 r h1 h2 h3 ih =>
    intro l hl hi hr ho
    refine ih l hl (hi.step h1 h2).1 (hr.trans (.step h1 h2 .refl)) ?_
    unfold stepM at h2
    split at h2
    · cases hq : lineEndM c with
      | error e => rw [hq] at h2; cases h2
      | ok c2 =>
        rw [hq] at h2
        injection h2 with h2; subst h2
        have hh := endS hi hr ho hq
        exact hh
    · injection h2 with h2; subst h2; exact ho
    · exact putS hi hr ho h2
    · cases h2
  | bad h1 h2 => intro l hl; cases hl
theorem ToksM.spots {S : ByteArray} {l : List TokenM} (h : ToksM S (.ok l)) : ∀ t ∈ l, ∃ d, Reach S cut0 d ∧ posL S d.pos = (t.line, t.col) ∧ d.pos ≤ S.size := by
  have h8 : ¬ 8000 < S.size := by have := h.placed; omega
  have hr : Runs S cut0 (.ok l) := by unfold ToksM at h; rw [if_neg h8] at h; exact h
  exact hr.spots l rfl (cut0_inv (by omega)) .refl (fun t ht => by cases ht)
end Go.Proofs.Ytlfgofjmcegeiaa
