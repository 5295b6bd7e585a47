/-
  Package code, plainly: what is wrong with a code. No condition.
-/
import Derived.Test.YtgonekmmbeedeaaCode
import Derived.Test.YtgonekmmbeedeaaScanT
namespace Go.Proofs.Ytgonekmmbeedeaa
open Go.RowKit
set_option linter.unusedVariables false

/-- The fields' kinds of an operation, by its number. -/
def fieldTab : List (List UInt8) := [[], [115, 110, 45, 45, 45], [115, 98, 45, 45, 45], [115, 120, 45, 45, 45], [115, 45, 45, 45, 45], [115, 102, 45, 45, 45], [115, 115, 45, 45, 45], [115, 115, 115, 111, 45], [115, 115, 115, 99, 45], [115, 115, 45, 45, 45], [115, 115, 45, 45, 45], [115, 115, 115, 45, 45], [115, 115, 45, 45, 45], [115, 115, 115, 45, 45], [115, 115, 115, 45, 45], [115, 115, 115, 115, 45], [115, 115, 115, 45, 45], [115, 91, 93, 45, 45], [115, 115, 45, 45, 45], [115, 115, 45, 45, 45], [115, 115, 45, 45, 45], [115, 103, 40, 41, 45], [115, 115, 45, 45, 45], [115, 115, 45, 45, 45], [], [116, 45, 45, 45, 45], [116, 45, 45, 45, 45], [115, 116, 45, 45, 45], [115, 115, 91, 112, 45], [114, 45, 45, 45, 45], [45, 45, 45, 45, 45], [115, 45, 45, 45, 45], [115, 45, 45, 45, 45], [115, 45, 45, 45, 45], [45, 91, 93, 45, 45], [97, 115, 91, 112, 45], [116, 45, 45, 45, 45], [107, 45, 45, 45, 45], [107, 116, 45, 45, 45], [107, 115, 91, 112, 97], [116, 45, 45, 45, 45], [115, 119, 45, 45, 45]]
def checkTab : List (List UInt8) := [[], [115, 115, 45], [115, 115, 45], [115, 115, 115], [115, 45, 45], [115, 45, 45], [115, 45, 45], [115, 80, 45], [115, 115, 45], [115, 45, 45], [97, 45, 45], [115, 45, 45], [115, 45, 45]]
def fieldsM (op : Int) : List UInt8 := if 0 ≤ op then (fieldTab[op.toNat]?).getD [] else []
def checksM (k : Int) : List UInt8 := if 0 ≤ k then (checkTab[k.toNat]?).getD [] else []
def withinB (n lo hi : Int) : Bool := decide (lo ≤ n) && decide (n ≤ hi)
def capsAt (c : CodeM) (n : Int) : Int := ((c.funcs[n.toNat]?).map (·.caps)).getD 0
/-- Is a number right for a field of that kind? -/
def fieldM (c : CodeM) (f : FnM) (kind : UInt8) (n next : Int) : Bool :=
  if kind = 115 then withinB n 0 (f.slots - 1)
  else if kind = 110 then true
  else if kind = 98 then withinB n 0 1
  else if kind = 120 then withinB n 0 ((c.texts.length : Int) - 1)
  else if kind = 102 then withinB n 0 ((c.funcs.length : Int) - 1) && decide (capsAt c n = 0)
  else if kind = 103 then withinB n 0 ((c.funcs.length : Int) - 1)
  else if kind = 116 then withinB n 0 ((f.ins.length : Int) - 1)
  else if kind = 111 then withinB n 1 10
  else if kind = 99 then withinB n 11 16
  else if kind = 107 then withinB n 0 7
  else if kind = 97 then decide (0 ≤ n)
  else if kind = 114 then withinB n (-1) (f.slots - 1)
  else if kind = 112 ∨ kind = 80 then withinB n 0 4
  else if kind = 119 then withinB n 0 (f.caps - 1)
  else if kind = 91 ∨ kind = 40 then withinB next 0 f.slots && withinB n 0 (f.slots - next)
  else if kind = 93 ∨ kind = 41 then true
  else decide (n = 0)
def InsM.row (i : InsM) : List Int := [i.a, i.b, i.c, i.d, i.e, 0]
def formM (i : InsM) : List UInt8 := if i.op = 24 then (if checksM i.d = [] then [] else checksM i.d ++ [42, 45]) else fieldsM i.op
def okAt (c : CodeM) (f : FnM) (form : List UInt8) (i : InsM) (k : Nat) : Bool := form.getD k 0 == 42 || fieldM c f (form.getD k 0) (i.row.getD k 0) (i.row.getD (k + 1) 0)
open Classical in
noncomputable def insM (c : CodeM) (f : FnM) (i : InsM) : Int :=
  if formM i = [] then 13
  else if ∀ k, k < 5 → okAt c f (formM i) i k = true then (if i.op = 21 ∧ i.d ≠ capsAt c i.b then 14 else 0)
  else 14
/-- May a function have the name? -/
def NamedP (s : ByteArray) : Prop := s.size = 0 ∨ ∃ l t, ToksM s (.ok l) ∧ l.length = 2 ∧ l[0]? = some t ∧ t.kind = 1 ∧ t.text = s
open Classical in
noncomputable def headM (k : Nat) (f : FnM) : Int :=
  if ¬ NamedP f.name then 7
  else if ¬ (withinB f.params 0 4 = true ∧ withinB f.slots f.params 3000 = true ∧ withinB f.caps 0 200 = true) then 14
  else if k = 0 ∧ (0 < f.params ∨ 0 < f.caps) then 12
  else if f.ins = [] then 16
  else if 20000 < f.ins.length then 15
  else 0
/-- The first element that is wrong, and how. -/
def firstE {α : Type} (p : Nat → α → Int) : Nat → List α → Option (Nat × Int)
  | _, [] => none
  | k, a :: l => if p k a = 0 then firstE p (k + 1) l else some (k, p k a)
def lastOk (f : FnM) : Bool := match f.ins.getLast? with | none => true | some i => decide (i.op = 26 ∨ i.op = 29 ∨ i.op = 30)
/-- What is wrong with a function: its error, and at which instruction. -/
noncomputable def fnE (c : CodeM) (k : Nat) (f : FnM) : Int × Int :=
  if headM k f ≠ 0 then (headM k f, -1)
  else match firstE (fun _ i => insM c f i) 0 f.ins with
    | some (at_, e) => (e, at_)
    | none => if lastOk f then (0, 0) else (11, (f.ins.length : Int) - 1)
open Classical in
noncomputable def textE (s : ByteArray) : Int := if s.size ≤ 200 ∧ okAll s.data.toList then 0 else 4
noncomputable def soundM (c : CodeM) : Int × Int × Int :=
  if c.funcs = [] then (16, -1, -1)
  else if 400 < c.funcs.length ∨ 2000 < c.texts.length then (15, -1, -1)
  else match firstE (fun _ s => textE s) 0 c.texts with
    | some (i, e) => (e, -1, i)
    | none => match firstE (fun k f => (fnE c k f).1) 0 c.funcs with
      | some (k, e) => (e, k, ((c.funcs[k]?).map (fun f => (fnE c k f).2)).getD 0)
      | none => (0, 0, 0)

/-! ### laws of it -/
theorem firstE_none {α : Type} {p : Nat → α → Int} : ∀ {k : Nat} {l : List α}, (∀ i a, l[i]? = some a → p (k + i) a = 0) → firstE p k l = none
  | _, [], _ => rfl
  | k, a :: l, h => by
    have h0 : p k a = 0 := h 0 a rfl
    unfold firstE; rw [if_pos h0]
    exact firstE_none (fun i b hb => by have := h (i + 1) b (by simpa using hb); rwa [show k + (i + 1) = k + 1 + i by omega] at this)
theorem firstE_some {α : Type} {p : Nat → α → Int} : ∀ {k n : Nat} {l : List α} {a : α}, (∀ i b, i < n → l[i]? = some b → p (k + i) b = 0) → l[n]? = some a → p (k + n) a ≠ 0 → firstE p k l = some (k + n, p (k + n) a)
  | k, _, [], a, _, h, _ => by simp at h
  | k, 0, b :: l, a, _, h, hp => by
    simp only [List.getElem?_cons_zero, Option.some.injEq] at h
    subst h
    rw [Nat.add_zero] at hp
    unfold firstE; rw [if_neg hp]; rfl
  | k, n + 1, b :: l, a, h0, h, hp => by
    have hb : p k b = 0 := h0 0 b (by omega) rfl
    have hu : firstE p k (b :: l) = firstE p (k + 1) l := by conv => lhs; unfold firstE; rw [if_pos hb]
    rw [hu]
    rw [List.getElem?_cons_succ] at h
    have e : k + (n + 1) = k + 1 + n := by omega
    rw [e] at hp
    rw [e]
    exact firstE_some (fun i c hi hc => by have := h0 (i + 1) c (by omega) (by simpa using hc); rwa [show k + (i + 1) = k + 1 + i by omega] at this) h hp
theorem firstE_ok {α : Type} {p : Nat → α → Int} : ∀ {k : Nat} {l : List α}, firstE p k l = none → ∀ i a, l[i]? = some a → p (k + i) a = 0
  | _, [], _, i, a, h => by simp at h
  | k, b :: l, h, i, a, hi => by
    unfold firstE at h
    split at h
    · rename_i h0
      cases i with
      | zero => simp only [List.getElem?_cons_zero, Option.some.injEq] at hi; subst hi; exact h0
      | succ i => rw [List.getElem?_cons_succ] at hi; have := firstE_ok h i a hi; rwa [show k + 1 + i = k + (i + 1) by omega] at this
    · cases h
end Go.Proofs.Ytgonekmmbeedeaa
