/-
  Package fault: which numbers a text of a form tells, which error a text tells: the plain laws. No condition.
-/
import Derived.Test.YtiicdknmoakocaaDoorFltW
import Derived.Test.YtiicdknmoakocaaDoorRead
namespace Go.Proofs.YtiicdknmoakocaaDoor
open Go.RowKit
set_option linter.unusedVariables false
set_option linter.unusedSimpArgs false

def isNum (c : UInt8) : Bool := c == 45 || (decide (48 ≤ c.toNat) && decide (c.toNat ≤ 57))
theorem dec_inj {u v : Nat} (hu : u < 10 ^ 19) (hv : v < 10 ^ 19) (h : Lib.decDigits u = Lib.decDigits v) : u = v := by
  have h1 := rdVal_dec 18 u hu
  have h2 := rdVal_dec 18 v hv
  rw [h, h2] at h1
  omega
theorem dec_head (u : Nat) (hu : u < 10 ^ 20) : ∃ c r, Lib.decDigits u = c :: r ∧ 48 ≤ c.toNat ∧ c.toNat ≤ 57 := by
  cases h : Lib.decDigits u with
  | nil => have := dec_pos u; rw [h] at this; simp at this
  | cons c r => exact ⟨c, r, rfl, dec_digit 19 u hu c (by rw [h]; exact List.mem_cons_self ..)⟩
theorem itoa_inj {u v : Int} (hu : okI u) (hv : okI v) (h : Lib.itoa u = Lib.itoa v) : u = v := by
  unfold okI at hu hv
  unfold Lib.itoa at h
  split at h <;> split at h
  · injection h with _ h
    have := dec_inj (by omega) (by omega) h
    omega
  · obtain ⟨c, r, e, h1, _⟩ := dec_head v.toNat (by omega)
    rw [e] at h
    injection h with h _
    subst h
    exact absurd h1 (by decide)
  · obtain ⟨c, r, e, h1, _⟩ := dec_head u.toNat (by omega)
    rw [e] at h
    injection h with h _
    subst h
    exact absurd h1 (by decide)
  · have := dec_inj (by omega) (by omega) h
    omega
/-- The number that a text is. -/
noncomputable def readO (l : List UInt8) : Option Int := by
  classical exact if h : ∃ v, okI v ∧ Lib.itoa v = l then some (Classical.choose h) else none
theorem readO_itoa (v : Int) (h : okI v) : readO (Lib.itoa v) = some v := by
  unfold readO
  have hx : ∃ u, okI u ∧ Lib.itoa u = Lib.itoa v := ⟨v, h, rfl⟩
  rw [dif_pos hx]
  have := Classical.choose_spec hx
  exact congrArg some (itoa_inj this.1 h this.2)
theorem readO_some {l : List UInt8} {v : Int} (h : readO l = some v) : okI v ∧ Lib.itoa v = l := by
  unfold readO at h
  split at h
  · rename_i hx
    injection h with h
    subst h
    exact Classical.choose_spec hx
  · cases h
theorem readO_none {l : List UInt8} (h : readO l = none) : ∀ v, okI v → Lib.itoa v ≠ l := by
  intro v hv he
  subst he
  rw [readO_itoa v hv] at h; cases h
theorem itoa_num (v : Int) (h : okI v) : ∀ c ∈ Lib.itoa v, isNum c = true := by
  have hd : ∀ u, u < 10 ^ 20 → ∀ c ∈ Lib.decDigits u, isNum c = true := fun u hu c hc => by
    obtain ⟨h1, h2⟩ := dec_digit 19 u hu c hc
    simp [isNum, h1, h2]
  unfold okI at h
  unfold Lib.itoa
  split
  · intro c hc
    rcases List.mem_cons.1 hc with rfl | hc
    · rfl
    · exact hd _ (by omega) c hc
  · exact hd _ (by omega)
theorem itoa_cons (v : Int) (h : okI v) : ∃ c r, Lib.itoa v = c :: r ∧ c ≠ 58 := by
  cases hc : Lib.itoa v with
  | nil =>
    exfalso
    unfold Lib.itoa at hc
    split at hc
    · cases hc
    · have := dec_pos v.toNat; rw [hc] at this; simp at this
  | cons c r =>
    refine ⟨c, r, rfl, ?_⟩
    have := itoa_num v h c (by rw [hc]; exact List.mem_cons_self ..)
    rintro rfl
    exact absurd this (by decide)
theorem take_num (v : Int) (h : okI v) (y : List UInt8) (hy : ∀ c r, y = c :: r → isNum c = false) : (Lib.itoa v ++ y).takeWhile isNum = Lib.itoa v := by
  have h2 : y.takeWhile isNum = [] := by
    cases y with
    | nil => rfl
    | cons c r => rw [List.takeWhile_cons, hy c r rfl]; rfl
  rw [List.takeWhile_append_of_pos (itoa_num v h), h2, List.append_nil]
/-! ### a text of a form -/
noncomputable def scanM : List (List UInt8) → Bool → List UInt8 → List Int → Option (List Int × List UInt8)
  | [], _, s, acc => some (acc, s)
  | p :: ps, true, s, acc => if p.isPrefixOf s then scanM ps false (s.drop p.length) acc else none
  | p :: ps, false, s, acc => match readO (s.takeWhile isNum) with
    | none => none
    | some v => if p.isPrefixOf (s.drop (s.takeWhile isNum).length) then scanM ps false ((s.drop (s.takeWhile isNum).length).drop p.length) (acc ++ [v]) else none
noncomputable def numbersM (ps : List (List UInt8)) (s : List UInt8) : Option (List Int) := match scanM ps true s [] with
  | some (acc, []) => some acc
  | _ => none
theorem pre_app (p x : List UInt8) : p.isPrefixOf (p ++ x) = true := by rw [List.isPrefixOf_iff_prefix]; exact List.prefix_append _ _
theorem scan_first (p x : List UInt8) (ps : List (List UInt8)) (acc : List Int) : scanM (p :: ps) true (p ++ x) acc = scanM ps false x acc := by
  show (if p.isPrefixOf (p ++ x) then scanM ps false ((p ++ x).drop p.length) acc else none) = _
  rw [if_pos (pre_app p x), List.drop_left]
theorem scan_num (v : Int) (h : okI v) (p x : List UInt8) (ps : List (List UInt8)) (acc : List Int) (hy : ∀ c r, p ++ x = c :: r → isNum c = false) : scanM (p :: ps) false (Lib.itoa v ++ (p ++ x)) acc = scanM ps false x (acc ++ [v]) := by
  rw [scanM, take_num v h _ hy, readO_itoa v h]
  show (if p.isPrefixOf ((Lib.itoa v ++ (p ++ x)).drop (Lib.itoa v).length) then scanM ps false (((Lib.itoa v ++ (p ++ x)).drop (Lib.itoa v).length).drop p.length) (acc ++ [v]) else none) = _
  rw [List.drop_left, if_pos (pre_app p x), List.drop_left]
theorem numbers_miss {p : List UInt8} {ps : List (List UInt8)} {s : List UInt8} (h : p.isPrefixOf s = false) : numbersM (p :: ps) s = none := by
  unfold numbersM
  rw [show scanM (p :: ps) true s [] = none by rw [scanM, h]; rfl]
theorem scan_ok : ∀ (ps : List (List UInt8)) (b : Bool) (s : List UInt8) (acc acc' : List Int) (r : List UInt8), scanM ps b s acc = some (acc', r) → (∀ x ∈ acc, okI x) → (∀ x ∈ acc', okI x) ∧ acc'.length + (if b = true ∧ ps ≠ [] then 1 else 0) = acc.length + ps.length
  | [], b, s, acc, acc', r, h, ho => by
    rw [scanM] at h
    injection h with h
    injection h with h1 h2
    subst h1
    exact ⟨ho, by simp⟩
  | p :: ps, true, s, acc, acc', r, h, ho => by
    rw [scanM] at h
    split at h
    · obtain ⟨h1, h2⟩ := scan_ok ps false _ acc acc' r h ho
      refine ⟨h1, ?_⟩
      simp at h2 ⊢
      omega
    · cases h
  | p :: ps, false, s, acc, acc', r, h, ho => by
    rw [scanM] at h
    split at h
    · cases h
    · rename_i v hv
      split at h
      · obtain ⟨h1, h2⟩ := scan_ok ps false _ (acc ++ [v]) acc' r h (fun x hx => by
          rcases List.mem_append.1 hx with hx | hx
          · exact ho x hx
          · rw [List.mem_singleton] at hx; subst hx; exact (readO_some hv).1)
        refine ⟨h1, ?_⟩
        simp at h2 ⊢
        omega
      · cases h
theorem numbers_ok {p : List UInt8} {ps : List (List UInt8)} {s : List UInt8} {l : List Int} (h : numbersM (p :: ps) s = some l) : (∀ x ∈ l, okI x) ∧ l.length = ps.length := by
  unfold numbersM at h
  split at h
  · rename_i acc hs
    injection h with h
    subst h
    obtain ⟨h1, h2⟩ := scan_ok _ _ _ _ _ _ hs (fun x hx => by cases hx)
    refine ⟨h1, ?_⟩
    simp at h2
    omega
  · cases h
/-! ### which error a text tells -/
def fP1 : List (List UInt8) := [cIx, cWl, []]
def fP2 : List (List UInt8) := [cLn, cAb, []]
def fP3 : List (List UInt8) := [cSl ++ [58], cWl, []]
def fP4 : List (List UInt8) := [cSl, [58], [93]]
def fP5 : List (List UInt8) := [cSl, [58, 93]]
def fixedK (s : List UInt8) : Int := if s = [] then 1 else if s = cF2 then 2 else if s = cF3 then 3 else if s = cF4 then 4 else if s = cF6 then 6 else if s = cF8 then 8 else 0
noncomputable def guessM (s : List UInt8) : FaultM := match numbersM fP1 s with
  | some l => ⟨1, l.getD 0 0, l.getD 1 0, 0⟩
  | none => match numbersM fP2 s with
    | some l => ⟨7, l.getD 0 0, l.getD 1 0, 0⟩
    | none => match numbersM fP3 s with
      | some l => ⟨5, 0, l.getD 0 0, l.getD 1 0⟩
      | none => match numbersM fP4 s with
        | some l => ⟨5, l.getD 0 0, l.getD 1 0, l.getD 1 0⟩
        | none => match numbersM fP5 s with
          | some l => ⟨5, l.getD 0 0, 0, 0⟩
          | none => ⟨fixedK s, 0, 0, 0⟩
theorem ok00 : okI 0 := ⟨by decide, by decide⟩
theorem getD_ok {l : List Int} (h : ∀ x ∈ l, okI x) (i : Nat) : okI (l.getD i 0) := by
  rw [List.getD_eq_getElem?_getD]
  cases hx : l[i]? with
  | none => exact ok00
  | some x => exact h x (List.mem_of_getElem? hx)
theorem fixedK_bd (s : List UInt8) : 0 ≤ fixedK s ∧ fixedK s ≤ 8 := by
  unfold fixedK
  repeat' (split <;> try omega)
theorem guess_ok (s : List UInt8) : okFt (guessM s) := by
  unfold guessM
  split
  · rename_i l h; have := numbers_ok h; exact ⟨by show okI 1; unfold okI; omega, getD_ok this.1 0, getD_ok this.1 1, ok00⟩
  split
  · rename_i l h; have := numbers_ok h; exact ⟨by show okI 7; unfold okI; omega, getD_ok this.1 0, getD_ok this.1 1, ok00⟩
  split
  · rename_i l h; have := numbers_ok h; exact ⟨by show okI 5; unfold okI; omega, ok00, getD_ok this.1 0, getD_ok this.1 1⟩
  split
  · rename_i l h; have := numbers_ok h; exact ⟨by show okI 5; unfold okI; omega, getD_ok this.1 0, getD_ok this.1 1, getD_ok this.1 1⟩
  split
  · rename_i l h; have := numbers_ok h; exact ⟨by show okI 5; unfold okI; omega, getD_ok this.1 0, ok00, ok00⟩
  · have := fixedK_bd s; exact ⟨by show okI (fixedK s); unfold okI; omega, ok00, ok00, ok00⟩
/-! ### what is told is read -/
theorem num_wl (x : List UInt8) : ∀ c r, cWl ++ x = c :: r → isNum c = false := by
  intro c r h
  have : c = 93 := by unfold cWl at h; injection h with h _; exact h.symm
  subst this; decide
theorem num_ab (x : List UInt8) : ∀ c r, cAb ++ x = c :: r → isNum c = false := by
  intro c r h
  have : c = 32 := by unfold cAb at h; injection h with h _; exact h.symm
  subst this; decide
theorem num_nil : ∀ (c : UInt8) (r : List UInt8), ([] : List UInt8) ++ [] = c :: r → isNum c = false := by intro c r h; cases h
theorem nums_two (p1 p2 : List UInt8) (a b : Int) (ha : okI a) (hb : okI b) (h2 : ∀ x c r, p2 ++ x = c :: r → isNum c = false) : numbersM [p1, p2, []] (p1 ++ (Lib.itoa a ++ (p2 ++ Lib.itoa b))) = some [a, b] := by
  unfold numbersM
  rw [scan_first, scan_num a ha p2 _ _ _ (h2 _)]
  have h3 := scan_num b hb [] [] [] ([] ++ [a]) num_nil
  rw [List.append_nil, List.append_nil] at h3
  rw [h3]
  rfl
theorem itoa_ne (v : Int) : Lib.itoa v ≠ [] := by
  unfold Lib.itoa
  split
  · simp
  · intro h; have := dec_pos v.toNat; rw [h] at this; simp at this
theorem readO_nil : readO [] = none := by
  cases h : readO [] with
  | none => rfl
  | some v => exact absurd (readO_some h).2 (itoa_ne v)
theorem pre_both : ∀ (p q s : List UInt8), (p ++ q).isPrefixOf (p ++ s) = q.isPrefixOf s
  | [], q, s => rfl
  | c :: p, q, s => by
    show ((c == c) && (p ++ q).isPrefixOf (p ++ s)) = _
    rw [pre_both p q s]; simp
theorem nums_colon (v : Int) (h : okI v) (y : List UInt8) : numbersM fP3 (cSl ++ (Lib.itoa v ++ y)) = none := by
  refine numbers_miss ?_
  rw [pre_both]
  obtain ⟨c, r, e, hc⟩ := itoa_cons v h
  rw [e]
  show ((58 == c) && _) = false
  rw [show ((58 : UInt8) == c) = false by rw [beq_eq_false_iff_ne]; exact fun e => hc e.symm]
  rfl
theorem guess_1 (a b : Int) (ha : okI a) (hb : okI b) : guessM (cIx ++ (Lib.itoa a ++ (cWl ++ Lib.itoa b))) = ⟨1, a, b, 0⟩ := by
  unfold guessM
  rw [show numbersM fP1 _ = _ from nums_two cIx cWl a b ha hb num_wl]
  rfl
theorem guess_7 (a b : Int) (ha : okI a) (hb : okI b) : guessM (cLn ++ (Lib.itoa a ++ (cAb ++ Lib.itoa b))) = ⟨7, a, b, 0⟩ := by
  unfold guessM
  rw [show numbersM fP1 (cLn ++ (Lib.itoa a ++ (cAb ++ Lib.itoa b))) = none from numbers_miss rfl, show numbersM fP2 _ = _ from nums_two cLn cAb a b ha hb num_ab]
  rfl
theorem guess_5a (a b : Int) (ha : okI a) (hb : okI b) : guessM (cSl ++ (58 :: (Lib.itoa a ++ (cWl ++ Lib.itoa b)))) = ⟨5, 0, a, b⟩ := by
  unfold guessM
  rw [show numbersM fP1 (cSl ++ (58 :: (Lib.itoa a ++ (cWl ++ Lib.itoa b)))) = none from numbers_miss rfl, show numbersM fP2 (cSl ++ (58 :: (Lib.itoa a ++ (cWl ++ Lib.itoa b)))) = none from numbers_miss rfl]
  have h := nums_two (cSl ++ [58]) cWl a b ha hb num_wl
  rw [List.append_assoc] at h
  rw [show numbersM fP3 (cSl ++ (58 :: (Lib.itoa a ++ (cWl ++ Lib.itoa b)))) = some [a, b] from h]
  rfl
theorem guess_5b (a b : Int) (ha : okI a) (hb : okI b) : guessM (cSl ++ (Lib.itoa a ++ (58 :: (Lib.itoa b ++ [93])))) = ⟨5, a, b, b⟩ := by
  unfold guessM
  rw [show numbersM fP1 (cSl ++ (Lib.itoa a ++ (58 :: (Lib.itoa b ++ [93])))) = none from numbers_miss rfl, show numbersM fP2 (cSl ++ (Lib.itoa a ++ (58 :: (Lib.itoa b ++ [93])))) = none from numbers_miss rfl, nums_colon a ha]
  have h : numbersM fP4 (cSl ++ (Lib.itoa a ++ (58 :: (Lib.itoa b ++ [93])))) = some [a, b] := by
    unfold numbersM fP4
    have h1 := scan_num a ha [58] (Lib.itoa b ++ [93]) [[93]] [] (by intro c r e; injection e with e _; subst e; decide)
    have h2 := scan_num b hb [93] [] [] ([] ++ [a]) (by intro c r e; injection e with e _; subst e; decide)
    rw [scan_first]
    rw [show (58 :: (Lib.itoa b ++ [93]) : List UInt8) = [58] ++ (Lib.itoa b ++ [93]) from rfl, h1]
    rw [show (Lib.itoa b ++ [93] : List UInt8) = Lib.itoa b ++ ([93] ++ []) by rw [List.append_nil], h2]
    rfl
  rw [h]
  rfl
theorem guess_5c (a : Int) (ha : okI a) : guessM (cSl ++ (Lib.itoa a ++ [58, 93])) = ⟨5, a, 0, 0⟩ := by
  unfold guessM
  rw [show numbersM fP1 (cSl ++ (Lib.itoa a ++ [58, 93])) = none from numbers_miss rfl, show numbersM fP2 (cSl ++ (Lib.itoa a ++ [58, 93])) = none from numbers_miss rfl, nums_colon a ha]
  have h : numbersM fP4 (cSl ++ (Lib.itoa a ++ [58, 93])) = none := by
    unfold numbersM fP4
    have h1 := scan_num a ha [58] [93] [[93]] [] (by intro c r e; injection e with e _; subst e; decide)
    rw [scan_first]
    rw [show ([58, 93] : List UInt8) = [58] ++ [93] from rfl, h1, scanM, show ([93] : List UInt8).takeWhile isNum = [] from rfl, readO_nil]
  have h5 : numbersM fP5 (cSl ++ (Lib.itoa a ++ [58, 93])) = some [a] := by
    unfold numbersM fP5
    have h1 := scan_num a ha [58, 93] [] [] [] (by intro c r e; injection e with e _; subst e; decide)
    rw [List.append_nil] at h1
    rw [scan_first, h1]
    rfl
  rw [h, h5]
  rfl
theorem guess_fix (s : List UInt8) (h1 : cIx.isPrefixOf s = false) (h2 : cLn.isPrefixOf s = false) (h3 : (cSl ++ [58]).isPrefixOf s = false) (h4 : cSl.isPrefixOf s = false) : guessM s = ⟨fixedK s, 0, 0, 0⟩ := by
  unfold guessM
  rw [show numbersM fP1 s = none from numbers_miss h1, show numbersM fP2 s = none from numbers_miss h2, show numbersM fP3 s = none from numbers_miss h3, show numbersM fP4 s = none from numbers_miss h4, show numbersM fP5 s = none from numbers_miss h4]
theorem guess_law (f : FaultM) (h : okFt f) (hn : textM f ≠ []) : (guessM (textM f)).k = f.k ∧ textM (guessM (textM f)) = textM f ∧ (guessM (textM f)).k ≠ 0 := by
  obtain ⟨k, a, b, c⟩ := f
  obtain ⟨_, ha, hb, hc⟩ := h
  simp only at ha hb hc
  unfold textM at hn
  simp only at hn
  by_cases h1 : k = 1
  · have e : textM ⟨k, a, b, c⟩ = cIx ++ (Lib.itoa a ++ (cWl ++ Lib.itoa b)) := by unfold textM; rw [if_pos h1]
    rw [e, guess_1 a b ha hb]
    exact ⟨h1.symm, by unfold textM; rw [if_pos rfl], by simp⟩
  rw [if_neg h1] at hn
  by_cases h5 : k = 5
  · have e : textM ⟨k, a, b, c⟩ = boundsM a b c := by unfold textM; rw [if_neg h1, if_pos h5]
    rw [if_pos h5] at hn
    rw [e]
    have t5 : ∀ x y z, textM ⟨5, x, y, z⟩ = boundsM x y z := fun x y z => by unfold textM; rw [if_neg (by simp), if_pos rfl]
    by_cases c1 : b < 0 ∨ c < b
    · have e2 : boundsM a b c = cSl ++ (58 :: (Lib.itoa b ++ (cWl ++ Lib.itoa c))) := by unfold boundsM; rw [if_pos c1]
      rw [e2, guess_5a b c hb hc]
      exact ⟨h5.symm, by rw [t5]; unfold boundsM; rw [if_pos c1], by simp⟩
    · by_cases c2 : b < a
      · have e2 : boundsM a b c = cSl ++ (Lib.itoa a ++ (58 :: (Lib.itoa b ++ [93]))) := by unfold boundsM; rw [if_neg c1, if_pos c2]
        rw [e2, guess_5b a b ha hb]
        exact ⟨h5.symm, by rw [t5]; unfold boundsM; rw [if_neg (by omega), if_pos c2], by simp⟩
      · by_cases c3 : a < 0
        · have e2 : boundsM a b c = cSl ++ (Lib.itoa a ++ [58, 93]) := by unfold boundsM; rw [if_neg c1, if_neg c2, if_pos c3]
          rw [e2, guess_5c a ha]
          exact ⟨h5.symm, by rw [t5]; unfold boundsM; rw [if_neg (by omega), if_neg (by omega), if_pos c3], by simp⟩
        · exact absurd (by unfold boundsM; rw [if_neg c1, if_neg c2, if_neg c3]) hn
  rw [if_neg h5] at hn
  by_cases h7 : k = 7
  · have e : textM ⟨k, a, b, c⟩ = cLn ++ (Lib.itoa a ++ (cAb ++ Lib.itoa b)) := by unfold textM; rw [if_neg h1, if_neg h5, if_pos h7]
    rw [e, guess_7 a b ha hb]
    exact ⟨h7.symm, by unfold textM; rw [if_neg (by simp), if_neg (by simp), if_pos rfl], by simp⟩
  rw [if_neg h7] at hn
  have e : textM ⟨k, a, b, c⟩ = fixedM k := by unfold textM; rw [if_neg h1, if_neg h5, if_neg h7]
  rw [e]
  by_cases h2 : k = 2
  · subst h2; rw [show fixedM 2 = cF2 from rfl, guess_fix cF2 rfl rfl rfl rfl]; exact ⟨by show fixedK cF2 = 2; decide, by decide, by show fixedK cF2 ≠ 0; decide⟩
  by_cases h3 : k = 3
  · subst h3; rw [show fixedM 3 = cF3 from rfl, guess_fix cF3 rfl rfl rfl rfl]; exact ⟨by show fixedK cF3 = 3; decide, by decide, by show fixedK cF3 ≠ 0; decide⟩
  by_cases h4 : k = 4
  · subst h4; rw [show fixedM 4 = cF4 from rfl, guess_fix cF4 rfl rfl rfl rfl]; exact ⟨by show fixedK cF4 = 4; decide, by decide, by show fixedK cF4 ≠ 0; decide⟩
  by_cases h6 : k = 6
  · subst h6; rw [show fixedM 6 = cF6 from rfl, guess_fix cF6 rfl rfl rfl rfl]; exact ⟨by show fixedK cF6 = 6; decide, by decide, by show fixedK cF6 ≠ 0; decide⟩
  by_cases h8 : k = 8
  · subst h8; rw [show fixedM 8 = cF8 from rfl, guess_fix cF8 rfl rfl rfl rfl]; exact ⟨by show fixedK cF8 = 8; decide, by decide, by show fixedK cF8 ≠ 0; decide⟩
  exact absurd (by unfold fixedM; rw [if_neg h2, if_neg h3, if_neg h4, if_neg h6, if_neg h8]) hn
/-- What is no error's text. -/
theorem guess_nil : guessM [] = ⟨1, 0, 0, 0⟩ := by rw [guess_fix [] rfl rfl rfl rfl]; rfl
end Go.Proofs.YtiicdknmoakocaaDoor
