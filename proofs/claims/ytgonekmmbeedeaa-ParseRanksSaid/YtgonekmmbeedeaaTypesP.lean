/-
  Package types, in plain words: a type's text, read from its front; what a function's type consists of. No program in sight, no condition.
-/
import Derived.Test.YtgonekmmbeedeaaBase
namespace Go.Proofs.Ytgonekmmbeedeaa.Ty
set_option linter.unusedVariables false

abbrev Bs := List UInt8
def bInt : Bs := [105, 110, 116]
def bBool : Bs := [98, 111, 111, 108]
def bString : Bs := [115, 116, 114, 105, 110, 103]
def bAny : Bs := [97, 110, 121]
def bInts : Bs := [91, 93, 105, 110, 116]
def bPtr : Bs := [42, 105, 110, 116]
def bFunc : Bs := [102, 117, 110, 99, 40]
def tyWords : List Bs := [bInt, bBool, bString, bAny, bInts, bPtr]
/-- What is left behind k, if the text begins with k. -/
def pre (k l : Bs) : Option Bs := if l.take k.length = k then some (l.drop k.length) else none
theorem pre_iff {k l r : Bs} : pre k l = some r ↔ l = k ++ r := by
  unfold pre
  constructor
  · intro h
    split at h
    · rename_i e
      have := Option.some.inj h
      rw [← this]
      conv => lhs; rw [← List.take_append_drop k.length l, e]
    · cases h
  · rintro rfl
    rw [if_pos (by simp)]; simp
def wordF : List Bs → Bs → Option Bs
  | [], _ => none
  | k :: ks, l => (pre k l).or (wordF ks l)
def wordM (l : Bs) : Option Bs := wordF tyWords l
/-- The parameters, n of them read already; what each is, and what is left behind the bracket. -/
def argsM (one : Bs → Option Bs) : Nat → Bool → Bs → Option (List Bs × Bs)
  | n, first, l =>
    match pre [41] l with
    | some r => some ([], r)
    | none =>
      match n with
      | 0 => none
      | n + 1 =>
        match (if first then some l else pre [44] l) with
        | none => none
        | some l1 =>
          match one l1 with
          | none => none
          | some r => (argsM one n false r).map fun p => (l1.take (l1.length - r.length) :: p.1, p.2)
/-- Does a result stand here? -/
def resB : Bs → Bool
  | [] => false
  | c :: _ => !(c == 44 || c == 41)
def resM (one : Bs → Option Bs) (l : Bs) : Option (Bs × Bs) := if resB l then (one l).map fun r => (l.take (l.length - r.length), r) else some ([], l)
def funM (one : Bs → Option Bs) (l : Bs) : Option (List Bs × Bs) :=
  (pre bFunc l).bind fun l1 => (argsM one 4 true l1).bind fun p => (resM one p.2).map fun q => (p.1 ++ [q.1], q.2)
def oneM : Nat → Bs → Option Bs
  | 0, _ => none
  | f + 1, l => (wordM l).or ((funM (oneM f) l).map (·.2))
def validB (l : Bs) : Bool := decide (l.length ≤ 100) && (oneM 101 l == some [])
def partsM (l : Bs) : Option (List Bs) := if l.length ≤ 100 then (match funM (oneM 100) l with | some (ps, []) => some ps | _ => none) else none

/-! ### what is left is an end of what was there -/
theorem wordF_app : ∀ {ks : List Bs} {l r : Bs}, wordF ks l = some r → ∃ k ∈ ks, l = k ++ r
  | [], l, r, h => by cases h
  | k :: ks, l, r, h => by
    unfold wordF at h
    rw [Option.or_eq_some_iff] at h
    rcases h with h | ⟨_, h⟩
    · exact ⟨k, List.mem_cons_self .., pre_iff.1 h⟩
    · obtain ⟨k', h1, h2⟩ := wordF_app h
      exact ⟨k', List.mem_cons_of_mem _ h1, h2⟩
/-- Reading leaves an end of the text, and something was read. -/
def Ends (one : Bs → Option Bs) : Prop := ∀ l r, one l = some r → ∃ p, p ≠ [] ∧ l = p ++ r
theorem take_of (p r : Bs) : (p ++ r).take ((p ++ r).length - r.length) = p := by
  rw [List.length_append, Nat.add_sub_cancel, List.take_left]
theorem argsM_ends {one : Bs → Option Bs} (h : Ends one) : ∀ {n : Nat} {f : Bool} {l : Bs} {p : List Bs × Bs}, argsM one n f l = some p → ∃ q, q ≠ [] ∧ l = q ++ p.2 := by
  intro n
  induction n with
  | zero =>
    intro f l p hp
    unfold argsM at hp
    split at hp
    · rename_i r hr
      cases hp
      exact ⟨[41], by simp, pre_iff.1 hr⟩
    · cases hp
  | succ n ih =>
    intro f l p hp
    unfold argsM at hp
    split at hp
    · rename_i r hr
      cases hp
      exact ⟨[41], by simp, pre_iff.1 hr⟩
    · dsimp only at hp
      split at hp
      · cases hp
      · rename_i l1 hl1
        split at hp
        · cases hp
        · rename_i r hr
          rw [Option.map_eq_some_iff] at hp
          obtain ⟨p', h1, rfl⟩ := hp
          obtain ⟨q, hq, e⟩ := ih h1
          obtain ⟨q1, hq1, e1⟩ := h _ _ hr
          have e2 : ∃ c : Bs, l = c ++ l1 := by
            split at hl1
            · cases hl1; exact ⟨[], rfl⟩
            · exact ⟨[44], pre_iff.1 hl1⟩
          obtain ⟨c, e2⟩ := e2
          refine ⟨c ++ q1 ++ q, by simp [hq], ?_⟩
          rw [e2, e1, e]; simp
theorem funM_ends {one : Bs → Option Bs} (h : Ends one) {l : Bs} {p : List Bs × Bs} (hp : funM one l = some p) : ∃ q, q ≠ [] ∧ l = q ++ p.2 := by
  unfold funM at hp
  rw [Option.bind_eq_some_iff] at hp
  obtain ⟨l1, h1, hp⟩ := hp
  rw [Option.bind_eq_some_iff] at hp
  obtain ⟨p1, h2, hp⟩ := hp
  rw [Option.map_eq_some_iff] at hp
  obtain ⟨q1, h3, rfl⟩ := hp
  obtain ⟨q, hq, e⟩ := argsM_ends h h2
  have e1 := pre_iff.1 h1
  have e3 : ∃ c : Bs, p1.2 = c ++ q1.2 := by
    unfold resM at h3
    split at h3
    · rw [Option.map_eq_some_iff] at h3
      obtain ⟨r, h4, rfl⟩ := h3
      obtain ⟨c, _, h5⟩ := h _ _ h4
      exact ⟨c, h5⟩
    · cases h3; exact ⟨[], rfl⟩
  obtain ⟨c, e3⟩ := e3
  exact ⟨bFunc ++ q ++ c, by simp [bFunc], by rw [e1, e, e3]; simp⟩
theorem words_ne : ∀ k ∈ tyWords, k ≠ [] := by decide
theorem oneM_ends : ∀ f, Ends (oneM f)
  | 0, l, r, h => by cases h
  | f + 1, l, r, h => by
    unfold oneM at h
    rw [Option.or_eq_some_iff] at h
    rcases h with h | ⟨_, h⟩
    · obtain ⟨k, h1, h2⟩ := wordF_app h
      exact ⟨k, words_ne k h1, h2⟩
    · rw [Option.map_eq_some_iff] at h
      obtain ⟨p, h1, rfl⟩ := h
      exact funM_ends (oneM_ends f) h1

/-! ### what was read, read alone; and read with something behind it -/
/-- Nothing, or a sign that ends a type. -/
def stops (r : Bs) : Prop := resB r = false
theorem wordM_of {k : Bs} (h : k ∈ tyWords) (r : Bs) : wordM (k ++ r) = some r := by
  simp only [tyWords, List.mem_cons, List.not_mem_nil, or_false] at h
  rcases h with rfl | rfl | rfl | rfl | rfl | rfl <;> simp [wordM, tyWords, wordF, pre, bInt, bBool, bString, bAny, bInts, bPtr]
theorem wordM_func (r : Bs) : wordM (bFunc ++ r) = none := by
  simp [wordM, tyWords, wordF, pre, bInt, bBool, bString, bAny, bInts, bPtr, bFunc]
theorem pre_self (k r : Bs) : pre k (k ++ r) = some r := pre_iff.2 rfl
theorem pre_cons_ne {c d : UInt8} (h : c ≠ d) (l : Bs) : pre [c] (d :: l) = none := by
  unfold pre; rw [if_neg]; simpa using fun e => h e.symm
theorem pre_nil (c : UInt8) : pre [c] [] = none := by simp [pre]
/-- What one reads (at most N bytes), one2 reads too, whatever comes behind it that stops. -/
def Tr (N : Nat) (one one2 : Bs → Option Bs) : Prop := ∀ p r r', p.length ≤ N → stops r' → one (p ++ r) = some r → one2 (p ++ r') = some r'
theorem argsM_head {one : Bs → Option Bs} {n : Nat} {l : Bs} {p : List Bs × Bs} (h : argsM one n false l = some p) : ∃ c t, l = c :: t ∧ (c = 44 ∨ c = 41) := by
  unfold argsM at h
  split at h
  · rename_i r hr
    exact ⟨41, r, pre_iff.1 hr, .inr rfl⟩
  · split at h
    · cases h
    · split at h
      · cases h
      · rename_i l1 hl1
        rw [if_neg (by decide)] at hl1
        exact ⟨44, l1, pre_iff.1 hl1, .inl rfl⟩
theorem stops_of {c : UInt8} {t : Bs} (h : c = 44 ∨ c = 41) : stops (c :: t) := by
  rcases h with rfl | rfl <;> rfl
theorem argsM_tr {N : Nat} {one one2 : Bs → Option Bs} (hE : Ends one) (h : Tr N one one2) : ∀ {n : Nat} {f : Bool} {q r r' : Bs} {ps : List Bs}, q.length ≤ N → argsM one n f (q ++ r) = some (ps, r) → argsM one2 n f (q ++ r') = some (ps, r') := by
  intro n
  induction n with
  | zero =>
    intro f q r r' ps hq hp
    unfold argsM at hp ⊢
    split at hp
    · rename_i r1 hr1
      cases hp
      have e : q = [41] := List.append_cancel_right (pre_iff.1 hr1)
      rw [e, pre_self]
    · cases hp
  | succ n ih =>
    intro f q r r' ps hq hp
    unfold argsM at hp ⊢
    split at hp
    · rename_i r1 hr1
      cases hp
      have e : q = [41] := List.append_cancel_right (pre_iff.1 hr1)
      rw [e, pre_self]
    · rename_i hn
      dsimp only at hp ⊢
      split at hp
      · cases hp
      · rename_i l1 hl1
        split at hp
        · cases hp
        · rename_i r0 hr0
          rw [Option.map_eq_some_iff] at hp
          obtain ⟨p', h1, h2⟩ := hp
          obtain ⟨ps', r1⟩ := p'
          simp only [Prod.mk.injEq] at h2
          obtain ⟨h2, rfl⟩ := h2
          obtain ⟨q2, hq2, e2⟩ := argsM_ends hE h1
          obtain ⟨q1, hq1, e1⟩ := hE _ _ hr0
          dsimp only at e2
          subst e2
          subst e1
          have e3 : ∃ c : Bs, q = c ++ q1 ++ q2 ∧ (∀ z, (if f = true then some (q ++ z) else pre [44] (q ++ z)) = some (q1 ++ q2 ++ z)) := by
            cases f with
            | true =>
              rw [if_pos rfl] at hl1
              have e : q = q1 ++ q2 := List.append_cancel_right (show q ++ r1 = (q1 ++ q2) ++ r1 by rw [List.append_assoc]; exact Option.some.inj hl1)
              exact ⟨[], by simpa using e, fun z => by rw [if_pos rfl, e]⟩
            | false =>
              rw [if_neg (by decide)] at hl1
              have e : q = [44] ++ (q1 ++ q2) := List.append_cancel_right (show q ++ r1 = ([44] ++ (q1 ++ q2)) ++ r1 by rw [pre_iff.1 hl1]; simp)
              exact ⟨[44], by simpa using e, fun z => by rw [if_neg (by decide), e]; exact pre_iff.2 (by simp)⟩
          obtain ⟨c, e3, e4⟩ := e3
          obtain ⟨c0, t0, e5, e6⟩ := argsM_head h1
          have e7 : ∀ z, ∃ t, q2 ++ z = c0 :: t := by
            intro z
            cases q2 with
            | nil => exact absurd rfl hq2
            | cons a q2 => simp only [List.cons_append, List.cons.injEq] at e5; exact ⟨q2 ++ z, by rw [e5.1]; rfl⟩
          obtain ⟨t1, e8⟩ := e7 r'
          have hlen : q.length = c.length + q1.length + q2.length := by rw [e3, List.length_append, List.length_append]
          have g1 := h q1 (q2 ++ r1) (q2 ++ r') (by omega) (by rw [e8]; exact stops_of e6) hr0
          have g2 := ih (r' := r') (by omega) h1
          have hn' : pre [41] (q ++ r') = none := by
            cases q with
            | nil => simp at hlen; exact absurd (List.length_eq_zero_iff.1 (by omega)) hq2
            | cons a q =>
              by_cases ha : a = 41
              · subst ha; exact absurd hn (by rw [show (41 :: q) ++ r1 = [41] ++ (q ++ r1) by rfl, pre_self]; simp)
              · exact pre_cons_ne (fun e => ha e.symm) _
          rw [hn', e4 r']
          dsimp only
          rw [List.append_assoc, g1]
          dsimp only
          rw [g2, Option.map_some, take_of, ← h2, take_of]
theorem resM_tr {N : Nat} {one one2 : Bs → Option Bs} (hE : Ends one) (h : Tr N one one2) {q r r' p : Bs} (hq : q.length ≤ N) (hs : stops r') (hp : resM one (q ++ r) = some (p, r)) : resM one2 (q ++ r') = some (p, r') := by
  unfold resM at hp ⊢
  split at hp
  · rename_i hb
    rw [Option.map_eq_some_iff] at hp
    obtain ⟨r1, h1, h2⟩ := hp
    simp only [Prod.mk.injEq] at h2
    obtain ⟨h2, rfl⟩ := h2
    have g := h q r1 r' hq hs h1
    obtain ⟨c, hc, e⟩ := hE _ _ h1
    have hb' : resB (q ++ r') = true := by
      cases q with
      | nil => exact absurd (List.append_cancel_right (show [] ++ r1 = c ++ r1 from e)).symm hc
      | cons a q => exact hb
    rw [if_pos hb', g, Option.map_some, take_of, ← h2, take_of]
  · rename_i hb
    simp only [Option.some.injEq, Prod.mk.injEq] at hp
    obtain ⟨rfl, hp⟩ := hp
    have e : q = [] := List.append_cancel_right (show q ++ r = [] ++ r from hp)
    subst e
    rw [if_neg (by unfold stops at hs; simp [hs])]; rfl
theorem resM_ends {one : Bs → Option Bs} (hE : Ends one) {l : Bs} {p : Bs × Bs} (hp : resM one l = some p) : l = p.1 ++ p.2 ∧ (p.1 = [] ∨ one l = some p.2) := by
  unfold resM at hp
  split at hp
  · rw [Option.map_eq_some_iff] at hp
    obtain ⟨r1, h1, rfl⟩ := hp
    obtain ⟨c, hc, rfl⟩ := hE _ _ h1
    rw [take_of]; exact ⟨rfl, .inr h1⟩
  · cases hp; exact ⟨rfl, .inl rfl⟩
theorem funM_parts {one : Bs → Option Bs} {l : Bs} {p : List Bs × Bs} (hp : funM one l = some p) : ∃ l1 ps l2 q, l = bFunc ++ l1 ∧ argsM one 4 true l1 = some (ps, l2) ∧ resM one l2 = some (q, p.2) ∧ p.1 = ps ++ [q] := by
  unfold funM at hp
  rw [Option.bind_eq_some_iff] at hp
  obtain ⟨l1, h1, hp⟩ := hp
  rw [Option.bind_eq_some_iff] at hp
  obtain ⟨p1, h2, hp⟩ := hp
  rw [Option.map_eq_some_iff] at hp
  obtain ⟨q1, h3, rfl⟩ := hp
  exact ⟨l1, p1.1, p1.2, q1.1, pre_iff.1 h1, h2, h3, rfl⟩
theorem funM_mk {one : Bs → Option Bs} {l1 l2 q r : Bs} {ps : List Bs} (h1 : argsM one 4 true l1 = some (ps, l2)) (h2 : resM one l2 = some (q, r)) : funM one (bFunc ++ l1) = some (ps ++ [q], r) := by
  unfold funM; rw [pre_self, Option.bind_some, h1, Option.bind_some, h2]; rfl
theorem funM_tr {N : Nat} {one one2 : Bs → Option Bs} (hE : Ends one) (h : Tr N one one2) {q r r' : Bs} {ps : List Bs} (hq : q.length ≤ N + 5) (hs : stops r') (hp : funM one (q ++ r) = some (ps, r)) : funM one2 (q ++ r') = some (ps, r') := by
  obtain ⟨l1, ps1, l2, c, e1, h1, h2, h3⟩ := funM_parts hp
  dsimp only at h2 h3
  obtain ⟨q1, _, e2⟩ := argsM_ends hE h1
  dsimp only at e2
  obtain ⟨e3, _⟩ := resM_ends hE h2
  dsimp only at e3
  have e4 : q = bFunc ++ (q1 ++ c) := List.append_cancel_right (show q ++ r = (bFunc ++ (q1 ++ c)) ++ r by rw [e1, e2, e3]; simp)
  have hl : q.length = 5 + (q1.length + c.length) := by rw [e4]; simp [bFunc]; omega
  subst e2
  have g1 := argsM_tr (r' := c ++ r') hE h (by omega) h1
  subst e3
  have g2 := resM_tr (r' := r') hE h (by omega) hs h2
  rw [e4, h3, List.append_assoc, List.append_assoc]
  exact funM_mk g1 g2
theorem oneM_tr : ∀ (f g N : Nat), N ≤ g → Tr N (oneM f) (oneM g)
  | 0, g, N, _ => fun p r r' _ _ h => by cases h
  | f + 1, g, N, hN => fun p r r' hp hs h => by
    obtain ⟨c, hc, e⟩ := oneM_ends _ _ _ h
    have e : p = c := List.append_cancel_right e
    subst e
    obtain ⟨g, rfl⟩ : ∃ g', g = g' + 1 := by
      cases g with
      | zero => exact absurd (List.length_eq_zero_iff.1 (by omega)) hc
      | succ g => exact ⟨g, rfl⟩
    unfold oneM at h ⊢
    rw [Option.or_eq_some_iff] at h ⊢
    rcases h with h | ⟨h1, h⟩
    · obtain ⟨k, h1, h2⟩ := wordF_app h
      have e : p = k := List.append_cancel_right h2
      subst e
      exact .inl (wordM_of h1 r')
    · rw [Option.map_eq_some_iff] at h
      obtain ⟨⟨ps, r1⟩, h2, h3⟩ := h
      dsimp only at h3; subst h3
      have g1 := funM_tr (N := N - 5) (r' := r') (oneM_ends f) (oneM_tr f g (N - 5) (by omega)) (by omega) hs h2
      obtain ⟨l1, _, _, _, e1, _⟩ := funM_parts g1
      exact .inr ⟨by rw [e1]; exact wordM_func _, by rw [g1]; rfl⟩

/-! ### the text that is made of parts -/
def glue : Bool → List Bs → Bs
  | _, [] => []
  | f, p :: t => (if f then [] else [44]) ++ p ++ glue false t
theorem glue_snoc : ∀ (f : Bool) (ps : List Bs) (p : Bs), glue f (ps ++ [p]) = glue f ps ++ (if f = true ∧ ps = [] then [] else [44]) ++ p
  | f, [], p => by cases f <;> simp [glue]
  | f, a :: t, p => by
    have := glue_snoc false t p
    simp only [List.cons_append, glue, this]; simp
theorem argsM_glue {one : Bs → Option Bs} (hE : Ends one) : ∀ {n : Nat} {f : Bool} {l r : Bs} {ps : List Bs}, argsM one n f l = some (ps, r) → l = glue f ps ++ [41] ++ r ∧ ps.length ≤ n ∧ ∀ p ∈ ps, ∃ r0, one (p ++ r0) = some r0 := by
  intro n
  induction n with
  | zero =>
    intro f l r ps hp
    unfold argsM at hp
    split at hp
    · rename_i r1 hr1
      cases hp
      exact ⟨by rw [pre_iff.1 hr1]; rfl, by simp, by simp⟩
    · cases hp
  | succ n ih =>
    intro f l r ps hp
    unfold argsM at hp
    split at hp
    · rename_i r1 hr1
      cases hp
      exact ⟨by rw [pre_iff.1 hr1]; rfl, by simp, by simp⟩
    · dsimp only at hp
      split at hp
      · cases hp
      · rename_i l1 hl1
        split at hp
        · cases hp
        · rename_i r0 hr0
          rw [Option.map_eq_some_iff] at hp
          obtain ⟨⟨ps', r1⟩, h1, h2⟩ := hp
          simp only [Prod.mk.injEq] at h2
          obtain ⟨rfl, rfl⟩ := h2
          obtain ⟨g1, g2, g3⟩ := ih h1
          obtain ⟨q1, hq1, rfl⟩ := hE _ _ hr0
          rw [take_of]
          refine ⟨?_, by simpa using g2, ?_⟩
          · cases f with
            | true => rw [if_pos rfl] at hl1; rw [Option.some.inj hl1]; simp [glue, g1]
            | false => rw [if_neg (by decide)] at hl1; rw [pre_iff.1 hl1]; simp [glue, g1]
          · intro p hp
            rcases List.mem_cons.1 hp with rfl | hp
            · exact ⟨r0, hr0⟩
            · exact g3 p hp
theorem argsM_mk {one : Bs → Option Bs} : ∀ {n : Nat} {f : Bool} {r : Bs} {ps : List Bs}, ps.length ≤ n → (∀ p ∈ ps, (∃ c t, p = c :: t ∧ c ≠ 41) ∧ ∀ r', stops r' → one (p ++ r') = some r') → argsM one n f (glue f ps ++ ([41] ++ r)) = some (ps, r) := by
  intro n
  induction n with
  | zero =>
    intro f r ps hl _
    obtain rfl := List.eq_nil_of_length_eq_zero (Nat.le_zero.1 hl)
    unfold argsM
    rw [show glue f [] ++ ([41] ++ r) = [41] ++ r by rfl, pre_self]
  | succ n ih =>
    intro f r ps hl h
    cases ps with
    | nil =>
      unfold argsM
      rw [show glue f [] ++ ([41] ++ r) = [41] ++ r by rfl, pre_self]
    | cons p t =>
      obtain ⟨⟨c, t0, e, hc⟩, h1⟩ := h p (List.mem_cons_self ..)
      have g := ih (f := false) (r := r) (ps := t) (by simpa using hl) (fun p hp => h p (List.mem_cons_of_mem _ hp))
      have hst : stops (glue false t ++ ([41] ++ r)) := by
        cases t with
        | nil => rfl
        | cons a t => rfl
      have h1 := h1 _ hst
      unfold argsM
      have e0 : pre [41] (glue f (p :: t) ++ ([41] ++ r)) = none := by
        cases f with
        | true => rw [e]; exact pre_cons_ne (fun e => hc e.symm) _
        | false => exact pre_cons_ne (by decide) _
      rw [e0]
      dsimp only
      have e1 : (if f = true then some (glue f (p :: t) ++ ([41] ++ r)) else pre [44] (glue f (p :: t) ++ ([41] ++ r))) = some (p ++ (glue false t ++ ([41] ++ r))) := by
        cases f with
        | true => rw [if_pos rfl]; simp [glue]
        | false => rw [if_neg (by decide)]; exact pre_iff.2 (by simp [glue])
      rw [e1]
      dsimp only
      rw [h1]
      dsimp only
      rw [g, Option.map_some, take_of]
/-! ### what the laws want -/
theorem valid_cases {l : Bs} (h : validB l = true) : l ∈ tyWords ∨ ∃ t, l = bFunc ++ t := by
  unfold validB at h
  rw [Bool.and_eq_true, beq_iff_eq] at h
  obtain ⟨_, h⟩ := h
  unfold oneM at h
  rw [Option.or_eq_some_iff] at h
  rcases h with h | ⟨_, h⟩
  · obtain ⟨k, h1, h2⟩ := wordF_app h
    rw [List.append_nil] at h2; subst h2; exact .inl h1
  · rw [Option.map_eq_some_iff] at h
    obtain ⟨p, h1, _⟩ := h
    obtain ⟨l1, _, _, _, e, _⟩ := funM_parts h1
    exact .inr ⟨l1, e⟩
theorem parts_back {l : Bs} {qs : List Bs} (h : partsM l = some qs) : ∃ ps q, qs = ps ++ [q] ∧ ps.length ≤ 4 ∧ (∀ p ∈ ps, validB p = true) ∧ (q ≠ [] → validB q = true) ∧ l = bFunc ++ (glue true ps ++ ([41] ++ q)) ∧ l.length ≤ 100 ∧ validB l = true := by
  unfold partsM at h
  split at h
  · rename_i hl
    split at h
    · rename_i qs' h1
      cases h
      have hv : validB l = true := by
        unfold validB
        rw [Bool.and_eq_true, beq_iff_eq]
        refine ⟨decide_eq_true hl, ?_⟩
        obtain ⟨l1, _, _, _, e, _⟩ := funM_parts h1
        show (wordM l).or ((funM (oneM 100) l).map (·.2)) = some []
        rw [h1, e, wordM_func]; rfl
      obtain ⟨l1, ps, l2, q, e1, h2, h3, h4⟩ := funM_parts h1
      dsimp only at h3 h4
      obtain ⟨g1, g2, g3⟩ := argsM_glue (oneM_ends 100) h2
      obtain ⟨g4, g5⟩ := resM_ends (oneM_ends 100) h3
      dsimp only at g4 g5
      rw [List.append_nil] at g4
      subst g4
      have hsub : ∀ p, (∃ a b, l = a ++ (p ++ b)) → p.length ≤ 100 := by
        rintro p ⟨a, b, e⟩
        rw [e] at hl; simp at hl; omega
      have hval : ∀ p r0, p.length ≤ 100 → oneM 100 (p ++ r0) = some r0 → validB p = true := by
        intro p r0 hp h
        unfold validB
        rw [Bool.and_eq_true, beq_iff_eq]
        refine ⟨decide_eq_true hp, ?_⟩
        have := oneM_tr 100 101 101 (Nat.le_refl _) p r0 [] (by omega) rfl h
        simpa using this
      have hgl : ∀ (f : Bool) (ps : List Bs) (p : Bs), p ∈ ps → p.length ≤ (glue f ps).length := by
        intro f ps p hp
        induction ps generalizing f with
        | nil => cases hp
        | cons a t ih =>
          rcases List.mem_cons.1 hp with rfl | hp
          · simp [glue]; omega
          · have := ih false hp
            simp [glue]; omega
      have hlen : l.length = 5 + (glue true ps).length + 1 + l2.length := by rw [e1, g1]; simp [bFunc]; omega
      refine ⟨ps, l2, h4, g2, fun p hp => ?_, fun hq => ?_, by rw [e1, g1]; simp, hl, hv⟩
      · obtain ⟨r0, h5⟩ := g3 p hp
        have := hgl true ps p hp
        exact hval p r0 (by omega) h5
      · rcases g5 with g5 | g5
        · exact absurd g5 hq
        · exact hval l2 [] (by omega) (by simpa using g5)
    · cases h
  · cases h
theorem valid_head {p : Bs} (h : validB p = true) : ∃ c t, p = c :: t ∧ c ≠ 41 ∧ resB p = true := by
  rcases valid_cases h with h | ⟨t, rfl⟩
  · simp only [tyWords, List.mem_cons, List.not_mem_nil, or_false] at h
    rcases h with rfl | rfl | rfl | rfl | rfl | rfl <;> exact ⟨_, _, rfl, by decide, by decide⟩
  · exact ⟨_, _, rfl, by decide, rfl⟩
theorem parts_made {ps : List Bs} {q : Bs} (h4 : ps.length ≤ 4) (hp : ∀ p ∈ ps, validB p = true) (hq : q ≠ [] → validB q = true) (hl : (bFunc ++ (glue true ps ++ ([41] ++ q))).length ≤ 100) : partsM (bFunc ++ (glue true ps ++ ([41] ++ q))) = some (ps ++ [q]) := by
  have hone : ∀ p, validB p = true → p.length ≤ 100 → ∀ r', stops r' → oneM 100 (p ++ r') = some r' := by
    intro p hv hp r' hs
    unfold validB at hv
    rw [Bool.and_eq_true, beq_iff_eq] at hv
    exact oneM_tr 101 100 100 (Nat.le_refl _) p [] r' hp hs (by simpa using hv.2)
  have hlv : ∀ p, validB p = true → p.length ≤ 100 := by
    intro p hv
    unfold validB at hv
    rw [Bool.and_eq_true, decide_eq_true_eq] at hv
    exact hv.1
  have h1 := argsM_mk (one := oneM 100) (n := 4) (f := true) (r := q) (ps := ps) h4 (fun p h => ⟨by obtain ⟨c, t, e, h1, _⟩ := valid_head (hp p h); exact ⟨c, t, e, h1⟩, hone p (hp p h) (hlv p (hp p h))⟩)
  have h2 : resM (oneM 100) q = some (q, []) := by
    cases q with
    | nil => rfl
    | cons a q =>
      have hv := hq (by simp)
      obtain ⟨_, _, _, _, hr⟩ := valid_head hv
      have := hone _ hv (hlv _ hv) [] rfl
      rw [List.append_nil] at this
      unfold resM
      rw [if_pos hr, this]; simp
  unfold partsM
  rw [if_pos hl, funM_mk h1 h2]
theorem parts_valid {l : Bs} {qs : List Bs} (h : partsM l = some qs) : validB l = true := by
  obtain ⟨_, _, _, _, _, _, _, _, h⟩ := parts_back h; exact h
end Go.Proofs.Ytgonekmmbeedeaa.Ty
