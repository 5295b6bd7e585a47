/-
  The cutting of a source into tokens, in plain Lean. No condition.
-/
import Derived.Test.YtgonekmmbeedeaaTok
import Derived.Test.YtgonekmmbeedeaaUnquote
import Derived.Test.YtgonekmmbeedeaaRead
namespace Go.Proofs.Ytgonekmmbeedeaa
open Go.RowKit
set_option linter.unusedVariables false

abbrev Bs := List UInt8
def restOf (S : ByteArray) (a : Nat) : Bs := S.data.toList.drop a
theorem rest_cons {S : ByteArray} {c : Nat} (h : c < S.size) : restOf S c = S[c] :: restOf S (c + 1) := udrop S c h
theorem rest_nil {S : ByteArray} {c : Nat} (h : S.size ≤ c) : restOf S c = [] := List.drop_eq_nil_of_le (by rw [Array.length_toList]; exact h)
theorem rest_len (S : ByteArray) (a : Nat) : (restOf S a).length = S.size - a := by
  unfold restOf; rw [List.length_drop, Array.length_toList]; rfl
theorem rest_drop (S : ByteArray) (a n : Nat) : (restOf S a).drop n = restOf S (a + n) := by
  unfold restOf; rw [List.drop_drop]

def letterB (b : UInt8) : Bool := (decide (97 ≤ b.toNat) && decide (b.toNat ≤ 122)) || (decide (65 ≤ b.toNat) && decide (b.toNat ≤ 90)) || b == 95
def digitB (b : UInt8) : Bool := decide (48 ≤ b.toNat) && decide (b.toNat ≤ 57)
def wordB (b : UInt8) : Bool := letterB b || digitB b
/-- How many bytes of a kind a text begins with. -/
def span_ (p : UInt8 → Bool) : Bs → Nat
  | [] => 0
  | b :: r => if p b then span_ p r + 1 else 0
def noNl (b : UInt8) : Bool := b != 10
def kFunc : Bs := [102, 117, 110, 99]
def kVar : Bs := [118, 97, 114]
def kIf : Bs := [105, 102]
def kElse : Bs := [101, 108, 115, 101]
def kFor : Bs := [102, 111, 114]
def kBreak : Bs := [98, 114, 101, 97, 107]
def kContinue : Bs := [99, 111, 110, 116, 105, 110, 117, 101]
def kReturn : Bs := [114, 101, 116, 117, 114, 110]
def kDefer : Bs := [100, 101, 102, 101, 114]
def kTrue : Bs := [116, 114, 117, 101]
def kFalse : Bs := [102, 97, 108, 115, 101]
def kNil : Bs := [110, 105, 108]
def kInt : Bs := [105, 110, 116]
def kBool : Bs := [98, 111, 111, 108]
def kString : Bs := [115, 116, 114, 105, 110, 103]
def kAny : Bs := [97, 110, 121]
def wordsL : List Bs := [kFunc, kVar, kIf, kElse, kFor, kBreak, kContinue, kReturn, kDefer, kTrue, kFalse, kNil, kInt, kBool, kString, kAny]
def isWord (l : Bs) : Bool := wordsL.contains l
/-- A number is written so. -/
def NumP (l : Bs) : Prop := ∃ n : Int, -9223372036854775808 ≤ n ∧ n ≤ 9223372036854775807 ∧ Lib.itoa n = l
/-- How many bytes stand ahead of the quote that ends a text. -/
def txtLen : Bs → Option Nat
  | [] => none
  | [c] => if c = 34 then some 0 else none
  | c :: d :: r => if c = 34 then some 0 else if c = 10 then none else if c = 92 then (txtLen r).map (· + 2) else (txtLen (d :: r)).map (· + 1)
def signs2 : List Bs := [[60, 60], [62, 62], [38, 38], [124, 124], [61, 61], [33, 61], [60, 61], [62, 61], [58, 61]]
def signs1 : Bs := [43, 45, 42, 47, 37, 38, 124, 94, 60, 62, 61, 40, 41, 123, 125, 91, 93, 44, 58, 33]
def signLen : Bs → Nat
  | [] => 0
  | [a] => if signs1.contains a then 1 else 0
  | a :: b :: _ => if signs2.contains [a, b] then 2 else if signs1.contains a then 1 else 0
def okText (l : Bs) : Bool := match unq l with | none => false | some o => decide (o.length ≤ 200)

inductive Lex
  | nl
  | skip (n : Nat)
  | tok (k : Int) (n : Nat)
  | bad (e : Int)
open Classical in
noncomputable def lex : Bs → Lex
  | [] => .bad 0
  | b :: r =>
    if b = 10 then .nl
    else if b = 32 ∨ b = 9 ∨ b = 13 then .skip 1
    else if b = 47 ∧ r.head? = some 47 then .skip (span_ noNl (b :: r))
    else if letterB b then (if 16 < span_ wordB (b :: r) then .bad 7 else .tok (if isWord ((b :: r).take (span_ wordB (b :: r))) then 5 else 1) (span_ wordB (b :: r)))
    else if digitB b then (if NumP ((b :: r).take (span_ wordB (b :: r))) then .tok 2 (span_ wordB (b :: r)) else .bad 3)
    else if b = 34 then (match txtLen r with | none => .bad 4 | some k => if okText (r.take k) then .tok 3 (k + 2) else .bad 4)
    else if b = 59 then .tok 6 1
    else if signLen (b :: r) = 0 then .bad 2 else .tok 4 (signLen (b :: r))

structure CutM where
  pos : Nat
  line : Int
  col : Int
  out : List TokenM
abbrev Err := Int × Int × Int
def putM (c : CutM) (k : Int) (t : ByteArray) (n : Nat) : Except Err CutM :=
  if c.out.length = 2000 then .error (15, c.line, c.col) else .ok { c with pos := c.pos + n, col := c.col + n, out := c.out ++ [⟨k, t, c.line, c.col⟩] }
def semiB : ByteArray := ⟨#[59]⟩
def endSigns : List Bs := [[41], [93], [125]]
def endWords : List Bs := [kBreak, kContinue, kReturn, kTrue, kFalse, kNil, kInt, kBool, kString, kAny]
def endsT (k : Int) (t : ByteArray) : Bool :=
  if k = 1 ∨ k = 2 ∨ k = 3 then true else if k = 4 then endSigns.contains t.data.toList else if k = 5 then endWords.contains t.data.toList else false
def lineEndM (c : CutM) : Except Err CutM := match c.out.getLast? with
  | some t => if endsT t.kind t.text then putM c 6 semiB 0 else .ok c
  | none => .ok c
noncomputable def stepM (S : ByteArray) (c : CutM) : Except Err CutM := match lex (restOf S c.pos) with
  | .nl => match lineEndM c with | .ok c => .ok { c with pos := c.pos + 1, line := c.line + 1, col := 1 } | .error e => .error e
  | .skip n => .ok { c with pos := c.pos + n, col := c.col + n }
  | .tok k n => putM c k (S.extract c.pos (c.pos + n)) n
  | .bad e => .error (e, c.line, c.col)
inductive Runs (S : ByteArray) : CutM → Except Err (List TokenM) → Prop
  | fin {c : CutM} : S.size ≤ c.pos → Runs S c (match lineEndM c with | .ok c => .ok c.out | .error e => .error e)
  | step {c c' : CutM} {r : Except Err (List TokenM)} : c.pos < S.size → stepM S c = .ok c' → Runs S c' r → Runs S c r
  | bad {c : CutM} {e : Err} : c.pos < S.size → stepM S c = .error e → Runs S c (.error e)
theorem Runs.det {S : ByteArray} {c : CutM} {r r' : Except Err (List TokenM)} (h : Runs S c r) (h' : Runs S c r') : r = r' := by
  induction h with
  | fin h => cases h' with
    | fin _ => rfl
    | step h2 => omega
    | bad h2 => omega
  | step h1 h2 h3 ih => cases h' with
    | fin h => omega
    | step _ h5 h6 =>
      rw [h2] at h5; injection h5 with h5; subst h5
      exact ih h6
    | bad _ h5 => rw [h2] at h5; cases h5
  | bad h1 h2 => cases h' with
    | fin h => omega
    | step _ h5 _ => rw [h2] at h5; cases h5
    | bad _ h5 => rw [h2] at h5; injection h5 with h5; rw [h5]
/-- The state at the beginning. -/
def cut0 : CutM := ⟨0, 1, 1, []⟩
/-- What Tokens answers. -/
def ToksM (S : ByteArray) (r : Except Err (List TokenM)) : Prop := if 8000 < S.size then r = .error (1, 0, 0) else Runs S cut0 r

/-! ### sizes -/
theorem span_le (p : UInt8 → Bool) : ∀ l : Bs, span_ p l ≤ l.length
  | [] => Nat.le_refl _
  | b :: r => by unfold span_; split; · have := span_le p r; simp; omega
                 · simp
theorem txtLen_le : ∀ (n : Nat) (l : Bs) (k : Nat), l.length ≤ n → txtLen l = some k → k < l.length
  | _, [], k, _, h => by simp [txtLen] at h
  | _, [c], k, _, h => by
    unfold txtLen at h
    split at h
    · injection h with h; subst h; simp
    · cases h
  | 0, c :: d :: r, k, hn, h => by simp at hn
  | n + 1, c :: d :: r, k, hn, h => by
    unfold txtLen at h
    split at h
    · injection h with h; subst h; simp
    · split at h
      · cases h
      · split at h
        · cases hr : txtLen r with
          | none => rw [hr] at h; cases h
          | some j =>
            rw [hr] at h; injection h with h; subst h
            have := txtLen_le n r j (by simp at hn; omega) hr
            simp; omega
        · cases hr : txtLen (d :: r) with
          | none => rw [hr] at h; cases h
          | some j =>
            rw [hr] at h; injection h with h; subst h
            have := txtLen_le n (d :: r) j (by simp at hn ⊢; omega) hr
            simp at this ⊢; omega
theorem signLen_le : ∀ l : Bs, signLen l ≤ l.length ∧ signLen l ≤ 2
  | [] => ⟨Nat.le_refl _, by decide⟩
  | [a] => by simp only [signLen]; split <;> simp
  | a :: b :: r => by
    simp only [signLen]
    split
    · simp
    · split <;> simp
/-- What a token, or what is passed over, is long. -/
theorem lex_len {l : Bs} (hl : l ≠ []) : (∀ n, lex l = .skip n → 1 ≤ n ∧ n ≤ l.length) ∧ (∀ k n, lex l = .tok k n → 1 ≤ n ∧ n ≤ l.length ∧ 1 ≤ k ∧ k ≤ 6) ∧ (∀ e, lex l = .bad e → 2 ≤ e ∧ e ≤ 7) := by
  cases l with
  | nil => exact absurd rfl hl
  | cons b r =>
    have h1 := span_le wordB (b :: r)
    have h2 := span_le noNl (b :: r)
    have h3 := signLen_le (b :: r)
    unfold lex
    dsimp only
    by_cases c1 : b = 10
    · rw [if_pos c1]; exact ⟨fun n h => (by cases h), fun k n h => (by cases h), fun e h => by cases h⟩
    rw [if_neg c1]
    by_cases c2 : b = 32 ∨ b = 9 ∨ b = 13
    · rw [if_pos c2]
      exact ⟨fun n h => by injection h with h; subst h; simp, fun k n h => (by cases h), fun e h => by cases h⟩
    rw [if_neg c2]
    by_cases c3 : b = 47 ∧ r.head? = some 47
    · rw [if_pos c3]
      refine ⟨fun n h => ?_, fun k n h => (by cases h), fun e h => by cases h⟩
      injection h with h; subst h
      refine ⟨?_, h2⟩
      unfold span_
      rw [if_pos (by rw [c3.1]; decide)]; omega
    rw [if_neg c3]
    by_cases c4 : letterB b = true
    · rw [if_pos c4]
      have h4 : 1 ≤ span_ wordB (b :: r) := by unfold span_; rw [if_pos (by unfold wordB; rw [c4]; rfl)]; omega
      split
      · exact ⟨fun n h => (by cases h), fun k n h => (by cases h), fun e h => by injection h with h; omega⟩
      · refine ⟨fun n h => (by cases h), fun k n h => ?_, fun e h => by cases h⟩
        injection h with ha hb
        subst hb
        refine ⟨h4, h1, ?_⟩
        split at ha <;> omega
    rw [if_neg c4]
    by_cases c5 : digitB b = true
    · rw [if_pos c5]
      have h4 : 1 ≤ span_ wordB (b :: r) := by unfold span_; rw [if_pos (by unfold wordB; rw [c5, Bool.or_true])]; omega
      split
      · refine ⟨fun n h => (by cases h), fun k n h => ?_, fun e h => by cases h⟩
        injection h with ha hb
        subst hb
        exact ⟨h4, h1, by omega, by omega⟩
      · exact ⟨fun n h => (by cases h), fun k n h => (by cases h), fun e h => by injection h with h; omega⟩
    rw [if_neg c5]
    by_cases c6 : b = 34
    · rw [if_pos c6]
      cases ht : txtLen r with
      | none => exact ⟨fun n h => (by cases h), fun k n h => (by cases h), fun e h => by injection h with h; omega⟩
      | some k =>
        have h5 := txtLen_le _ r k (Nat.le_refl _) ht
        dsimp only
        split
        · refine ⟨fun n h => (by cases h), fun k n h => ?_, fun e h => by cases h⟩
          injection h with ha hb
          subst hb
          exact ⟨by omega, by simp; omega, by omega, by omega⟩
        · exact ⟨fun n h => (by cases h), fun k n h => (by cases h), fun e h => by injection h with h; omega⟩
    rw [if_neg c6]
    by_cases c7 : b = 59
    · rw [if_pos c7]
      refine ⟨fun n h => (by cases h), fun k n h => ?_, fun e h => by cases h⟩
      injection h with ha hb
      subst hb
      exact ⟨by omega, by simp, by omega, by omega⟩
    rw [if_neg c7]
    split
    · exact ⟨fun n h => (by cases h), fun k n h => (by cases h), fun e h => by injection h with h; omega⟩
    · refine ⟨fun n h => (by cases h), fun k n h => ?_, fun e h => by cases h⟩
      injection h with ha hb
      subst hb
      exact ⟨by omega, h3.1, by omega, by omega⟩
/-- The numbers of a state at work. -/
structure CBd (S : ByteArray) (c : CutM) : Prop where
  size : S.size ≤ 8000
  pos : c.pos ≤ S.size
  l1 : 1 ≤ c.line
  l2 : c.line ≤ c.pos + 1
  c1 : 1 ≤ c.col
  c2 : c.col ≤ c.pos + 1
  out : c.out.length ≤ 2000
theorem putM_ok {c c' : CutM} {k : Int} {t : ByteArray} {n : Nat} (h : putM c k t n = .ok c') : c.out.length ≠ 2000 ∧ c' = { c with pos := c.pos + n, col := c.col + n, out := c.out ++ [⟨k, t, c.line, c.col⟩] } := by
  unfold putM at h
  split at h
  · cases h
  · rename_i h1; injection h with h; exact ⟨h1, h.symm⟩
theorem CBd.put {S : ByteArray} {c c' : CutM} {k : Int} {t : ByteArray} {n : Nat} (h : CBd S c) (hn : c.pos + n ≤ S.size) (hp : putM c k t n = .ok c') : CBd S c' := by
  obtain ⟨h1, rfl⟩ := putM_ok hp
  refine ⟨h.size, hn, h.l1, ?_, ?_, ?_, ?_⟩
  · show c.line ≤ ((c.pos + n : Nat) : Int) + 1; have := h.l2; omega
  · show 1 ≤ c.col + (n : Int); have := h.c1; omega
  · show c.col + (n : Int) ≤ ((c.pos + n : Nat) : Int) + 1; have := h.c2; omega
  · show (c.out ++ [_]).length ≤ 2000; rw [List.length_append, List.length_singleton]; have := h.out; omega
theorem lineEndM_ok {c c' : CutM} (h : lineEndM c = .ok c') : c' = c ∨ putM c 6 semiB 0 = .ok c' := by
  unfold lineEndM at h
  split at h
  · split at h
    · exact .inr h
    · injection h with h; exact .inl h.symm
  · injection h with h; exact .inl h.symm
theorem CBd.lineEnd {S : ByteArray} {c c' : CutM} (h : CBd S c) (hp : lineEndM c = .ok c') : CBd S c' ∧ c'.pos = c.pos := by
  rcases lineEndM_ok hp with rfl | hp
  · exact ⟨h, rfl⟩
  · exact ⟨h.put (by have := h.pos; omega) hp, by obtain ⟨_, rfl⟩ := putM_ok hp; rfl⟩
theorem CBd.step {S : ByteArray} {c c' : CutM} (h : CBd S c) (hl : c.pos < S.size) (hp : stepM S c = .ok c') : CBd S c' ∧ c.pos < c'.pos := by
  have hne : restOf S c.pos ≠ [] := by rw [rest_cons hl]; exact List.cons_ne_nil _ _
  obtain ⟨g1, g2, g3⟩ := lex_len hne
  rw [rest_len] at g1 g2
  unfold stepM at hp
  split at hp
  · cases hq : lineEndM c with
    | error e => rw [hq] at hp; cases hp
    | ok c1 =>
      rw [hq] at hp
      injection hp with hp
      subst hp
      obtain ⟨h1, h2⟩ := h.lineEnd hq
      refine ⟨⟨h1.size, by show c1.pos + 1 ≤ _; omega, ?_, ?_, ?_, ?_, h1.out⟩, by show _ < c1.pos + 1; omega⟩
      · show 1 ≤ c1.line + 1; have := h1.l1; omega
      · show c1.line + 1 ≤ ((c1.pos + 1 : Nat) : Int) + 1; have := h1.l2; omega
      · show (1 : Int) ≤ 1; omega
      · show (1 : Int) ≤ ((c1.pos + 1 : Nat) : Int) + 1; omega
  · rename_i n hn
    have := g1 n hn
    injection hp with hp
    subst hp
    refine ⟨⟨h.size, by show c.pos + n ≤ _; omega, h.l1, ?_, ?_, ?_, h.out⟩, by show _ < c.pos + n; omega⟩
    · show c.line ≤ ((c.pos + n : Nat) : Int) + 1; have := h.l2; omega
    · show 1 ≤ c.col + (n : Int); have := h.c1; omega
    · show c.col + (n : Int) ≤ ((c.pos + n : Nat) : Int) + 1; have := h.c2; omega
  · rename_i k n hn
    have := g2 k n hn
    exact ⟨h.put (by omega) hp, by obtain ⟨_, rfl⟩ := putM_ok hp; show _ < c.pos + n; omega⟩
  · cases hp
theorem cut0_bd {S : ByteArray} (h : S.size ≤ 8000) : CBd S cut0 := ⟨h, Nat.zero_le _, by show (1 : Int) ≤ 1; omega, by show (1 : Int) ≤ ((0 : Nat) : Int) + 1; omega, by show (1 : Int) ≤ 1; omega, by show (1 : Int) ≤ ((0 : Nat) : Int) + 1; omega, Nat.zero_le _⟩
/-- The run comes to an end. -/
theorem Runs.ex {S : ByteArray} : ∀ (n : Nat) (c : CutM), CBd S c → S.size - c.pos ≤ n → ∃ r, Runs S c r
  | n, c, h, hn => by
    rcases Nat.lt_or_ge c.pos S.size with hl | hl
    · cases hs : stepM S c with
      | error e => exact ⟨_, .bad hl hs⟩
      | ok c' =>
        obtain ⟨h1, h2⟩ := h.step hl hs
        cases n with
        | zero => omega
        | succ n =>
          obtain ⟨r, hr⟩ := Runs.ex n c' h1 (by omega)
          exact ⟨r, .step hl hs hr⟩
    · exact ⟨_, .fin hl⟩
end Go.Proofs.Ytgonekmmbeedeaa
