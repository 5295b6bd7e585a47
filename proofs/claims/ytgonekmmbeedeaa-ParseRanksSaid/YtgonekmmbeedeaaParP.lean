/-
Package parse: the reading of tokens as a tree, in plain Lean. No condition.
Package parse: the plain reading ends, and does not depend on how many steps are given. No condition.
-/
import Derived.Test.YtgonekmmbeedeaaScanP
import Derived.Test.YtgonekmmbeedeaaRdN
import Derived.Test.YtgonekmmbeedeaaTypesG
import Derived.Test.YtgonekmmbeedeaaNod
namespace Go.Proofs.Ytgonekmmbeedeaa.Pa
open Go.RowKit
set_option linter.unusedVariables false

/-- A tree. -/
inductive T where
  | node (kind : Int) (text type : ByteArray) (num : Int) (kids : List T)
/-- A token, wherever it stands. -/
abbrev Tk := Int × ByteArray
def tkOf (t : TokenM) : Tk := (t.kind, t.text)
/-- What comes of reading: something and the tokens behind it; a token that does not fit; no steps left. -/
inductive Pr (α : Type) where
  | ok (a : α) (r : List Tk)
  | bad
  | out
def Pr.bind {α β : Type} (p : Pr α) (f : α → List Tk → Pr β) : Pr β := match p with
  | .ok a r => f a r
  | .bad => .bad
  | .out => .out
def sB (l : Bs) : ByteArray := ⟨l.toArray⟩
def noB : ByteArray := ⟨#[]⟩
def isSign (s : Bs) : List Tk → Bool
  | [] => false
  | t :: _ => (t.1 == 4 || t.1 == 5) && t.2.data.toList == s
def kindOf : List Tk → Int
  | [] => 0
  | t :: _ => t.1
def textOf : List Tk → ByteArray
  | [] => noB
  | t :: _ => t.2
def want (s : Bs) (l : List Tk) : Pr Unit := if isSign s l then .ok () l.tail else .bad
def nmM (l : List Tk) : Pr ByteArray := if kindOf l = 1 then .ok (textOf l) l.tail else .bad
/-- The first of some texts that the next token is. -/
def firstOf (ss : List Bs) (l : List Tk) : Option Bs := ss.find? (fun s => isSign s l)
def tyNames : List Bs := [kInt, kBool, kString, kAny]
def tyHeads : List Bs := [kInt, kBool, kString, kAny, [91], [42], kFunc]
def typed (l : List Tk) : Bool := tyHeads.any (fun s => isSign s l)
def kInts : Bs := [91, 93, 105, 110, 116]
def kPtr : Bs := [42, 105, 110, 116]
mutual
def typF : Nat → List Tk → Pr Bs
  | 0, _ => .out
  | f + 1, l => match firstOf tyNames l with
    | some s => .ok s l.tail
    | none =>
      if isSign [91] l then (want [93] l.tail).bind fun _ r => (want kInt r).bind fun _ r => .ok kInts r
      else if isSign [42] l then (want kInt l.tail).bind fun _ r => .ok kPtr r
      else (want kFunc l).bind fun _ r => (want [40] r).bind fun _ r => (typsF f [] r).bind fun ps r =>
        (if typed r then typF f r else .ok [] r).bind fun q r =>
        if (Ty.funcM (ps.map sB) (sB q)).2 = 0 then .ok (Ty.funcM (ps.map sB) (sB q)).1 r else .bad
def typsF : Nat → List Bs → List Tk → Pr (List Bs)
  | 0, _, _ => .out
  | f + 1, ps, l => if isSign [41] l then .ok ps l.tail else
      (if ps = [] then .ok () l else want [44] l).bind fun _ r => (typF f r).bind fun t r => typsF f (ps ++ [t]) r
end
/-- What word.Read and scan.Unquote answer first. -/
noncomputable def numOf (t : ByteArray) : Int := (readO t.data.toList).getD 0
noncomputable def sayOf (t : ByteArray) : ByteArray := ⟨((unqO t).getD []).toArray⟩
def nd (k : Int) (kids : List T) : T := .node k noB noB 0 kids
/-- Parameters, up to the bracket's end. -/
def parsF : Nat → List T → List Tk → Pr (List T)
  | 0, _, _ => .out
  | f + 1, ps, l => if isSign [41] l then .ok ps l.tail else
      (if ps = [] then .ok () l else want [44] l).bind fun _ r => if ps.length = 4 then .bad else
      (nmM r).bind fun s r => (typF f r).bind fun t r => parsF f (ps ++ [.node 3 s (sB t) 0 []]) r
def resF (f : Nat) (l : List Tk) : Pr T :=
  if isSign [40] l then (nmM l.tail).bind fun s r => (typF f r).bind fun t r => (want [41] r).bind fun _ r => .ok (.node 4 s (sB t) 0 []) r
  else if typed l then (typF f l).bind fun t r => .ok (.node 4 noB (sB t) 0 []) r
  else .ok (nd 4 []) l
/-- May a value be put there? -/
def placeT : T → Bool
  | .node k s _ _ _ => k == 25 || k == 29 || (k == 26 && s.data.toList == [42])
def kindT : T → Int
  | .node k _ _ _ _ => k
def levels : List (List Bs) := [[[124, 124]], [[38, 38]], [[61, 61], [33, 61], [60], [60, 61], [62], [62, 61]], [[43], [45], [124], [94]], [[42], [47], [37], [60, 60], [62, 62], [38]]]
def level (s : Bs) : Nat := match levels.findIdx? (fun l => l.contains s) with | some i => i + 1 | none => 0
/-- The sign between two operands that comes next. -/
def binop (least : Nat) (l : List Tk) : Option (ByteArray × Nat) :=
  if kindOf l = 4 then (if level (textOf l).data.toList < least ∨ level (textOf l).data.toList = 0 then none else some (textOf l, level (textOf l).data.toList)) else none
def unOps : List Bs := [[45], [33], [42]]
def isDefine (l : List Tk) : Bool := kindOf l == 1 && match l with
  | _ :: t :: _ => t.1 == 4 && t.2.data.toList == [58, 61]
  | _ => false
mutual
noncomputable def exprF : Nat → Nat → List Tk → Pr T
  | 0, _, _ => .out
  | f + 1, least, l => (unaryF f l).bind fun a r => loopF f least a r
noncomputable def loopF : Nat → Nat → T → List Tk → Pr T
  | 0, _, _, _ => .out
  | f + 1, least, a, l => match binop least l with
    | some (s, n) => (exprF f (n + 1) l.tail).bind fun m r => loopF f least (.node 27 s noB 0 [a, m]) r
    | none => .ok a l
noncomputable def unaryF : Nat → List Tk → Pr T
  | 0, _ => .out
  | f + 1, l => match firstOf unOps l with
    | some s => (unaryF f l.tail).bind fun a r => .ok (.node 26 (sB s) noB 0 [a]) r
    | none =>
      if isSign [38] l then (nmM l.tail).bind fun s r => .ok (.node 26 (sB [38]) noB 0 [.node 25 s noB 0 []]) r
      else (primF f l).bind fun a r => behF f a r
noncomputable def primF : Nat → List Tk → Pr T
  | 0, _ => .out
  | f + 1, l =>
    if kindOf l = 1 then .ok (.node 25 (textOf l) noB 0 []) l.tail
    else if kindOf l = 2 then .ok (.node 21 noB noB (numOf (textOf l)) []) l.tail
    else if kindOf l = 3 then .ok (.node 22 (sayOf (textOf l)) noB 0 []) l.tail
    else if isSign kTrue l then .ok (.node 23 noB noB 1 []) l.tail
    else if isSign kFalse l then .ok (nd 23 []) l.tail
    else if isSign kNil l then .ok (nd 24 []) l.tail
    else if isSign [40] l then (exprF f 1 l.tail).bind fun a r => (want [41] r).bind fun _ r => .ok a r
    else if isSign kFunc l then funF f 33 noB l.tail
    else (want [91] l).bind fun _ r => (want [93] r).bind fun _ r => (want kInt r).bind fun _ r => (want [123] r).bind fun _ r =>
      (listF f [125] true [] r).bind fun ks r => .ok (nd 32 ks) r
noncomputable def listF : Nat → Bs → Bool → List T → List Tk → Pr (List T)
  | 0, _, _, _, _ => .out
  | f + 1, stop, first, ks, l => if isSign stop l then .ok ks l.tail else
      (if first then .ok () l else want [44] l).bind fun _ r => (exprF f 1 r).bind fun a r => listF f stop false (ks ++ [a]) r
noncomputable def behF : Nat → T → List Tk → Pr T
  | 0, _, _ => .out
  | f + 1, a, l =>
    if isSign [40] l then (listF f [41] true [a] l.tail).bind fun ks r => behF f (nd 28 ks) r
    else if isSign [91] l then (insF f a l.tail).bind fun b r => behF f b r
    else .ok a l
noncomputable def insF : Nat → T → List Tk → Pr T
  | 0, _, _ => .out
  | f + 1, a, l =>
    if isSign [58] l then (want [58] l).bind fun _ r => endF f a (nd 31 []) r
    else (exprF f 1 l).bind fun b r => if isSign [93] r then .ok (nd 29 [a, b]) r.tail else (want [58] r).bind fun _ r => endF f a b r
/-- The piece's end, behind the colon. -/
noncomputable def endF : Nat → T → T → List Tk → Pr T
  | 0, _, _, _ => .out
  | f + 1, a, b, l =>
    (if isSign [93] l then .ok (nd 31 []) l else exprF f 1 l).bind fun c r => (want [93] r).bind fun _ r => .ok (nd 30 [a, b, c]) r
noncomputable def funF : Nat → Int → ByteArray → List Tk → Pr T
  | 0, _, _, _ => .out
  | f + 1, k, s, l => (want [40] l).bind fun _ r => (parsF f [] r).bind fun ps r => (resF f r).bind fun q r => (blockF f r).bind fun b r =>
      .ok (.node k s noB ps.length (ps ++ [q, b])) r
noncomputable def blockF : Nat → List Tk → Pr T
  | 0, _ => .out
  | f + 1, l => (want [123] l).bind fun _ r => (stmsF f [] r).bind fun ks r => .ok (nd 5 ks) r
noncomputable def stmsF : Nat → List T → List Tk → Pr (List T)
  | 0, _, _ => .out
  | f + 1, ks, l => if isSign [125] l then .ok ks l.tail else if kindOf l = 6 then stmsF f ks l.tail else
      (stmF f l).bind fun a r => if kindOf r = 6 ∨ isSign [125] r = true then stmsF f (ks ++ [a]) r else .bad
noncomputable def stmF : Nat → List Tk → Pr T
  | 0, _ => .out
  | f + 1, l =>
    if isSign [123] l then blockF f l
    else if isSign kVar l then (nmM l.tail).bind fun s r => (typF f r).bind fun t r => .ok (.node 6 s (sB t) 0 []) r
    else if isSign kIf l then ifsF f l.tail
    else if isSign kFor l then
      (if isSign [123] l.tail then .ok [] l.tail else (exprF f 1 l.tail).bind fun a r => .ok [a] r).bind fun ks r => (blockF f r).bind fun b r => .ok (nd 11 (ks ++ [b])) r
    else if isSign kBreak l then .ok (nd 12 []) l.tail
    else if isSign kContinue l then .ok (nd 13 []) l.tail
    else if isSign kReturn l then
      if kindOf l.tail = 6 ∨ isSign [125] l.tail = true then .ok (nd 14 []) l.tail else (exprF f 1 l.tail).bind fun a r => .ok (nd 14 [a]) r
    else if isSign kDefer l then (exprF f 1 l.tail).bind fun a r => if kindT a = 28 then .ok (nd 15 [a]) r else .bad
    else simF f l
noncomputable def ifsF : Nat → List Tk → Pr T
  | 0, _ => .out
  | f + 1, l => (exprF f 1 l).bind fun a r => (blockF f r).bind fun b r =>
      if isSign kElse r then (if isSign kIf r.tail then ifsF f r.tail.tail else blockF f r.tail).bind fun c r => .ok (nd 10 [a, b, c]) r
      else .ok (nd 10 [a, b]) r
noncomputable def simF : Nat → List Tk → Pr T
  | 0, _ => .out
  | f + 1, l =>
    if isDefine l then (exprF f 1 l.tail.tail).bind fun a r => .ok (.node 7 (textOf l) noB 0 [a]) r
    else (exprF f 1 l).bind fun a r =>
      if isSign [61] r then (if placeT a then (exprF f 1 r.tail).bind fun b r => .ok (nd 8 [a, b]) r else .bad)
      else if kindT a = 28 then .ok (nd 9 [a]) r else .bad
end

/-! ### the nodes of a tree, each behind its kids -/
mutual
def sizeT : T → Nat
  | .node _ _ _ _ ks => sizeL ks + 1
def sizeL : List T → Nat
  | [] => 0
  | t :: r => sizeT t + sizeL r
end
/-- Where a tree's own node stands, if the first of its nodes stands at b. -/
def rootT (b : Nat) : T → Nat
  | .node _ _ _ _ ks => b + sizeL ks
def rootsL (b : Nat) : List T → List Int
  | [] => []
  | t :: r => (rootT b t : Int) :: rootsL (b + sizeT t) r
mutual
def flat (b : Nat) : T → List NodeM
  | .node k s t n ks => flatL b ks ++ [⟨k, s, t, n, rootsL b ks⟩]
def flatL (b : Nat) : List T → List NodeM
  | [] => []
  | t :: r => flat b t ++ flatL (b + sizeT t) r
end
mutual
theorem flat_len : ∀ (b : Nat) (t : T), (flat b t).length = sizeT t
  | b, .node _ _ _ _ ks => by simp [flat, sizeT, flatL_len b ks]
theorem flatL_len : ∀ (b : Nat) (l : List T), (flatL b l).length = sizeL l
  | _, [] => rfl
  | b, t :: r => by simp [flatL, sizeL, flat_len b t, flatL_len _ r]
end
theorem rootT_eq (b : Nat) (t : T) : rootT b t + 1 = b + sizeT t := by cases t; simp [rootT, sizeT]; omega
theorem sizeL_app : ∀ (l m : List T), sizeL (l ++ m) = sizeL l + sizeL m
  | [], m => by simp [sizeL]
  | t :: r, m => by simp [sizeL, sizeL_app r m]; omega
theorem flatL_app : ∀ (b : Nat) (l m : List T), flatL b (l ++ m) = flatL b l ++ flatL (b + sizeL l) m
  | b, [], m => by simp [flatL, sizeL]
  | b, t :: r, m => by simp [flatL, sizeL, flatL_app _ r m, Nat.add_assoc]
theorem rootsL_app : ∀ (b : Nat) (l m : List T), rootsL b (l ++ m) = rootsL b l ++ rootsL (b + sizeL l) m
  | b, [], m => by simp [rootsL, sizeL]
  | b, t :: r, m => by simp [rootsL, sizeL, rootsL_app _ r m, Nat.add_assoc]
theorem rootsL_len : ∀ (b : Nat) (l : List T), (rootsL b l).length = l.length
  | _, [] => rfl
  | b, t :: r => by simp [rootsL, rootsL_len _ r]
theorem sizeT_pos (t : T) : 0 < sizeT t := by cases t; simp [sizeT]
theorem sizeL_ge : ∀ l : List T, l.length ≤ sizeL l
  | [] => by simp [sizeL]
  | t :: r => by have := sizeL_ge r; have := sizeT_pos t; simp [sizeL]; omega
end Go.Proofs.Ytgonekmmbeedeaa.Pa
namespace Go.Proofs.Ytgonekmmbeedeaa.Pa
open Go.RowKit
set_option linter.unusedVariables false
set_option linter.unusedSimpArgs false

/-- x, but for want of steps. -/
def Pr.le {α : Type} (x y : Pr α) : Prop := x = .out ∨ x = y
theorem Pr.le_refl {α : Type} (x : Pr α) : Pr.le x x := .inr rfl
theorem Pr.out_le {α : Type} (y : Pr α) : Pr.le .out y := .inl rfl
theorem Pr.bind_le {α β : Type} {x y : Pr α} {f g : α → List Tk → Pr β} (h : Pr.le x y) (k : ∀ a r, Pr.le (f a r) (g a r)) : Pr.le (x.bind f) (y.bind g) := by
  rcases h with rfl | rfl
  · exact .inl rfl
  · cases x with
    | ok a r => exact k a r
    | bad => exact .inr rfl
    | out => exact .inl rfl
theorem Pr.ite_le {α : Type} {c : Prop} [Decidable c] {a b a' b' : Pr α} (h : Pr.le a a') (k : Pr.le b b') : Pr.le (if c then a else b) (if c then a' else b') := by split <;> assumption
theorem typ_le : ∀ f g, f ≤ g → (∀ l, Pr.le (typF f l) (typF g l)) ∧ (∀ ps l, Pr.le (typsF f ps l) (typsF g ps l))
  | 0, g, _ => ⟨fun l => by rw [typF]; exact .inl rfl, fun ps l => by rw [typsF]; exact .inl rfl⟩
  | f + 1, 0, h => by omega
  | f + 1, g + 1, h => by
    obtain ⟨h1, h2⟩ := typ_le f g (by omega)
    constructor
    · intro l
      rw [typF, typF]
      cases firstOf tyNames l with
      | some s => exact .inr rfl
      | none => 
        refine Pr.ite_le (Pr.le_refl _) (Pr.ite_le (Pr.le_refl _) (Pr.bind_le (Pr.le_refl _) fun _ _ => Pr.bind_le (Pr.le_refl _) fun _ _ => Pr.bind_le (h2 _ _) fun _ _ => Pr.bind_le (Pr.ite_le (h1 _) (Pr.le_refl _)) fun _ _ => Pr.le_refl _))
    · intro ps l
      rw [typsF, typsF]
      exact Pr.ite_le (Pr.le_refl _) (Pr.bind_le (Pr.le_refl _) fun _ _ => Pr.bind_le (h1 _) fun _ _ => h2 _ _)
theorem pars_le : ∀ f g, f ≤ g → ∀ ps l, Pr.le (parsF f ps l) (parsF g ps l)
  | 0, g, _, ps, l => by rw [parsF]; exact .inl rfl
  | f + 1, 0, h, _, _ => by omega
  | f + 1, g + 1, h, ps, l => by
    rw [parsF, parsF]
    exact Pr.ite_le (Pr.le_refl _) (Pr.bind_le (Pr.le_refl _) fun _ _ => Pr.ite_le (Pr.le_refl _) (Pr.bind_le (Pr.le_refl _) fun _ _ => Pr.bind_le ((typ_le f g (by omega)).1 _) fun _ _ => pars_le f g (by omega) _ _))
theorem res_le (f g : Nat) (h : f ≤ g) (l : List Tk) : Pr.le (resF f l) (resF g l) := by
  unfold resF
  exact Pr.ite_le (Pr.bind_le (Pr.le_refl _) fun _ _ => Pr.bind_le ((typ_le f g h).1 _) fun _ _ => Pr.le_refl _) (Pr.ite_le (Pr.bind_le ((typ_le f g h).1 _) fun _ _ => Pr.le_refl _) (Pr.le_refl _))
structure LeAll (f g : Nat) : Prop where
  expr : ∀ n l, Pr.le (exprF f n l) (exprF g n l)
  loop : ∀ n a l, Pr.le (loopF f n a l) (loopF g n a l)
  unary : ∀ l, Pr.le (unaryF f l) (unaryF g l)
  prim : ∀ l, Pr.le (primF f l) (primF g l)
  list : ∀ s b ks l, Pr.le (listF f s b ks l) (listF g s b ks l)
  beh : ∀ a l, Pr.le (behF f a l) (behF g a l)
  ins : ∀ a l, Pr.le (insF f a l) (insF g a l)
  end_ : ∀ a b l, Pr.le (endF f a b l) (endF g a b l)
  fun_ : ∀ k s l, Pr.le (funF f k s l) (funF g k s l)
  block : ∀ l, Pr.le (blockF f l) (blockF g l)
  stms : ∀ ks l, Pr.le (stmsF f ks l) (stmsF g ks l)
  stm : ∀ l, Pr.le (stmF f l) (stmF g l)
  ifs : ∀ l, Pr.le (ifsF f l) (ifsF g l)
  sim : ∀ l, Pr.le (simF f l) (simF g l)
theorem le_all : ∀ f g, f ≤ g → LeAll f g
  | 0, g, _ => by
    constructor <;> intros <;> (first | rw [exprF] | rw [loopF] | rw [unaryF] | rw [primF] | rw [listF] | rw [behF] | rw [insF] | rw [endF] | rw [funF] | rw [blockF] | rw [stmsF] | rw [stmF] | rw [ifsF] | rw [simF]) <;> exact .inl rfl
  | f + 1, 0, h => by omega
  | f + 1, g + 1, h => by
    have H := le_all f g (by omega)
    constructor
    · intro n l; rw [exprF, exprF]; exact Pr.bind_le (H.unary _) fun _ _ => H.loop _ _ _
    · intro n a l; rw [loopF, loopF]
      split
      · exact Pr.bind_le (H.expr _ _) fun _ _ => H.loop _ _ _
      · exact Pr.le_refl _
    · intro l; rw [unaryF, unaryF]
      split
      · exact Pr.bind_le (H.unary _) fun _ _ => Pr.le_refl _
      · exact Pr.ite_le (Pr.le_refl _) (Pr.bind_le (H.prim _) fun _ _ => H.beh _ _)
    · intro l; rw [primF, primF]
      refine Pr.ite_le (Pr.le_refl _) (Pr.ite_le (Pr.le_refl _) (Pr.ite_le (Pr.le_refl _) (Pr.ite_le (Pr.le_refl _) (Pr.ite_le (Pr.le_refl _) (Pr.ite_le (Pr.le_refl _) (Pr.ite_le ?_ (Pr.ite_le (H.fun_ _ _ _) ?_)))))))
      · exact Pr.bind_le (H.expr _ _) fun _ _ => Pr.le_refl _
      · exact Pr.bind_le (Pr.le_refl _) fun _ _ => Pr.bind_le (Pr.le_refl _) fun _ _ => Pr.bind_le (Pr.le_refl _) fun _ _ => Pr.bind_le (Pr.le_refl _) fun _ _ => Pr.bind_le (H.list _ _ _ _) fun _ _ => Pr.le_refl _
    · intro s b ks l; rw [listF, listF]
      exact Pr.ite_le (Pr.le_refl _) (Pr.bind_le (Pr.le_refl _) fun _ _ => Pr.bind_le (H.expr _ _) fun _ _ => H.list _ _ _ _)
    · intro a l; rw [behF, behF]
      exact Pr.ite_le (Pr.bind_le (H.list _ _ _ _) fun _ _ => H.beh _ _) (Pr.ite_le (Pr.bind_le (H.ins _ _) fun _ _ => H.beh _ _) (Pr.le_refl _))
    · intro a l; rw [insF, insF]
      exact Pr.ite_le (Pr.bind_le (Pr.le_refl _) fun _ _ => H.end_ _ _ _) (Pr.bind_le (H.expr _ _) fun _ _ => Pr.ite_le (Pr.le_refl _) (Pr.bind_le (Pr.le_refl _) fun _ _ => H.end_ _ _ _))
    · intro a b l; rw [endF, endF]
      exact Pr.bind_le (Pr.ite_le (Pr.le_refl _) (H.expr _ _)) fun _ _ => Pr.le_refl _
    · intro k s l; rw [funF, funF]
      exact Pr.bind_le (Pr.le_refl _) fun _ _ => Pr.bind_le (pars_le f g (by omega) _ _) fun _ _ => Pr.bind_le (res_le f g (by omega) _) fun _ _ => Pr.bind_le (H.block _) fun _ _ => Pr.le_refl _
    · intro l; rw [blockF, blockF]
      exact Pr.bind_le (Pr.le_refl _) fun _ _ => Pr.bind_le (H.stms _ _) fun _ _ => Pr.le_refl _
    · intro ks l; rw [stmsF, stmsF]
      exact Pr.ite_le (Pr.le_refl _) (Pr.ite_le (H.stms _ _) (Pr.bind_le (H.stm _) fun _ _ => Pr.ite_le (H.stms _ _) (Pr.le_refl _)))
    · intro l; rw [stmF, stmF]
      refine Pr.ite_le (H.block _) (Pr.ite_le ?_ (Pr.ite_le (H.ifs _) (Pr.ite_le ?_ (Pr.ite_le (Pr.le_refl _) (Pr.ite_le (Pr.le_refl _) (Pr.ite_le ?_ (Pr.ite_le ?_ (H.sim _))))))))
      · exact Pr.bind_le (Pr.le_refl _) fun _ _ => Pr.bind_le ((typ_le f g (by omega)).1 _) fun _ _ => Pr.le_refl _
      · exact Pr.bind_le (Pr.ite_le (Pr.le_refl _) (Pr.bind_le (H.expr _ _) fun _ _ => Pr.le_refl _)) fun _ _ => Pr.bind_le (H.block _) fun _ _ => Pr.le_refl _
      · exact Pr.ite_le (Pr.le_refl _) (Pr.bind_le (H.expr _ _) fun _ _ => Pr.le_refl _)
      · exact Pr.bind_le (H.expr _ _) fun _ _ => Pr.le_refl _
    · intro l; rw [ifsF, ifsF]
      exact Pr.bind_le (H.expr _ _) fun _ _ => Pr.bind_le (H.block _) fun _ _ => Pr.ite_le (Pr.bind_le (Pr.ite_le (H.ifs _) (H.block _)) fun _ _ => Pr.le_refl _) (Pr.le_refl _)
    · intro l; rw [simF, simF]
      exact Pr.ite_le (Pr.bind_le (H.expr _ _) fun _ _ => Pr.le_refl _) (Pr.bind_le (H.expr _ _) fun _ _ => Pr.ite_le (Pr.ite_le (Pr.bind_le (H.expr _ _) fun _ _ => Pr.le_refl _) (Pr.le_refl _)) (Pr.le_refl _))
/-! ### reading ends -/
/-- Fewer than k tokens are left, and there were steps enough. -/
def Fin {α : Type} (k : Nat) (p : Pr α) : Prop := match p with
  | .ok _ r => r.length < k
  | .bad => True
  | .out => False
theorem Fin.bind {α β : Type} {k m : Nat} {x : Pr α} {f : α → List Tk → Pr β} (h : Fin k x) (g : ∀ a r, r.length < k → Fin m (f a r)) : Fin m (x.bind f) := by
  cases x with
  | ok a r => exact g a r h
  | bad => exact trivial
  | out => exact h.elim
theorem Fin.mono {α : Type} {k m : Nat} {x : Pr α} (h : Fin k x) (hk : k ≤ m) : Fin m x := by
  cases x with
  | ok a r => exact Nat.lt_of_lt_of_le h hk
  | bad => exact trivial
  | out => exact h.elim
theorem sign_pos {s : Bs} {l : List Tk} (h : isSign s l = true) : l.tail.length < l.length := by
  cases l with
  | nil => cases h
  | cons t r => simp
theorem kind_pos {l : List Tk} {k : Int} (h : kindOf l = k) (hk : k ≠ 0) : l.tail.length < l.length := by
  cases l with
  | nil => exact absurd h.symm hk
  | cons t r => simp
theorem fin_want (s : Bs) (l : List Tk) : Fin l.length (want s l) := by
  unfold want
  split
  · exact sign_pos ‹_›
  · exact trivial
theorem fin_name (l : List Tk) : Fin l.length (nmM l) := by
  unfold nmM
  split
  · exact kind_pos ‹_› (by decide)
  · exact trivial
theorem first_pos {ss : List Bs} {l : List Tk} {s : Bs} (h : firstOf ss l = some s) : l.tail.length < l.length := sign_pos (s := s) (List.find?_some (p := fun s => isSign s l) h)
theorem fin_typ : ∀ f, (∀ l, 8 * l.length + 1 ≤ f → Fin l.length (typF f l)) ∧ (∀ ps l, 8 * l.length + 2 ≤ f → Fin l.length (typsF f ps l))
  | 0 => ⟨fun l h => by omega, fun _ l h => by omega⟩
  | f + 1 => by
    obtain ⟨h1, h2⟩ := fin_typ f
    constructor
    · intro l hf
      rw [typF]
      split
      · exact first_pos ‹_›
      · split
        · have := sign_pos ‹_›
          exact (fin_want _ _).bind fun _ r hr => (fin_want _ _).bind fun _ r2 hr2 => by show r2.length < _; omega
        · split
          · have := sign_pos ‹_›
            exact (fin_want _ _).bind fun _ r2 hr2 => by show r2.length < _; omega
          · refine (fin_want _ _).bind fun _ r hr => (fin_want _ _).bind fun _ r hr => (h2 _ _ (by omega)).bind fun _ r3 hr3 => ?_
            refine Fin.bind (k := r3.length + 1) ?_ fun _ r4 hr4 => ?_
            · split
              · exact (h1 _ (by omega)).mono (by omega)
              · exact Nat.lt_succ_self _
            · split
              · show r4.length < _; omega
              · exact trivial
    · intro ps l hf
      rw [typsF]
      split
      · exact sign_pos ‹_›
      · refine Fin.bind (k := l.length + 1) ?_ fun _ r hr => (h1 _ (by omega)).bind fun _ r2 hr2 => (h2 _ _ (by omega)).mono (by omega)
        split
        · exact Nat.lt_succ_self _
        · exact (fin_want _ _).mono (by omega)
theorem fin_pars : ∀ f ps l, 8 * l.length + 2 ≤ f → Fin l.length (parsF f ps l)
  | 0, _, l, h => by omega
  | f + 1, ps, l, hf => by
    rw [parsF]
    split
    · exact sign_pos ‹_›
    · refine Fin.bind (k := l.length + 1) ?_ fun _ r hr => ?_
      · split
        · exact Nat.lt_succ_self _
        · exact (fin_want _ _).mono (by omega)
      · split
        · exact trivial
        · exact (fin_name _).bind fun _ r2 hr2 => ((fin_typ f).1 _ (by omega)).bind fun _ r3 hr3 => (fin_pars f _ _ (by omega)).mono (by omega)
theorem fin_res (f : Nat) (l : List Tk) (hf : 8 * l.length + 2 ≤ f) : Fin (l.length + 1) (resF f l) := by
  unfold resF
  split
  · have := sign_pos ‹_›
    exact (fin_name _).bind fun _ r hr => ((fin_typ f).1 _ (by omega)).bind fun _ r2 hr2 => (fin_want _ _).bind fun _ r3 hr3 => by show r3.length < _; omega
  · split
    · exact ((fin_typ f).1 _ (by omega)).bind fun _ r2 hr2 => by show r2.length < _; omega
    · exact Nat.lt_succ_self _
structure FinAll (f : Nat) : Prop where
  expr : ∀ n l, 8 * l.length + 3 ≤ f → Fin l.length (exprF f n l)
  loop : ∀ n a l, 8 * l.length + 1 ≤ f → Fin (l.length + 1) (loopF f n a l)
  unary : ∀ l, 8 * l.length + 2 ≤ f → Fin l.length (unaryF f l)
  prim : ∀ l, 8 * l.length + 1 ≤ f → Fin l.length (primF f l)
  list : ∀ s b ks l, 8 * l.length + 4 ≤ f → Fin l.length (listF f s b ks l)
  beh : ∀ a l, 8 * l.length + 1 ≤ f → Fin (l.length + 1) (behF f a l)
  ins : ∀ a l, 8 * l.length + 4 ≤ f → Fin l.length (insF f a l)
  end_ : ∀ a b l, 8 * l.length + 4 ≤ f → Fin l.length (endF f a b l)
  fun_ : ∀ k s l, 8 * l.length + 1 ≤ f → Fin l.length (funF f k s l)
  block : ∀ l, 8 * l.length + 1 ≤ f → Fin l.length (blockF f l)
  stms : ∀ ks l, 8 * l.length + 6 ≤ f → Fin l.length (stmsF f ks l)
  stm : ∀ l, 8 * l.length + 5 ≤ f → Fin l.length (stmF f l)
  ifs : ∀ l, 8 * l.length + 4 ≤ f → Fin l.length (ifsF f l)
  sim : ∀ l, 8 * l.length + 4 ≤ f → Fin l.length (simF f l)
theorem binop_pos {n : Nat} {l : List Tk} {p : ByteArray × Nat} (h : binop n l = some p) : l.tail.length < l.length := by
  unfold binop at h
  split at h
  · exact kind_pos ‹_› (by decide)
  · cases h
theorem define_pos {l : List Tk} (h : isDefine l = true) : l.tail.tail.length + 1 < l.length := by
  match l, h with
  | _ :: _ :: r, _ => simp
  | [_], h => simp [isDefine] at h
  | [], h => simp [isDefine] at h
theorem fin_all : ∀ f, FinAll f
  | 0 => by constructor <;> intros <;> omega
  | f + 1 => by
    have H := fin_all f
    constructor
    · intro n l hf; rw [exprF]; exact (H.unary _ (by omega)).bind fun _ r hr => (H.loop _ _ _ (by omega)).mono (by omega)
    · intro n a l hf; rw [loopF]
      split
      · have := binop_pos ‹_›
        exact (H.expr _ _ (by omega)).bind fun _ r hr => (H.loop _ _ _ (by omega)).mono (by omega)
      · exact Nat.lt_succ_self _
    · intro l hf; rw [unaryF]
      split
      · have := first_pos ‹_›
        exact (H.unary _ (by omega)).bind fun _ r hr => by show r.length < _; omega
      · split
        · have := sign_pos ‹_›
          exact (fin_name _).bind fun _ r hr => by show r.length < _; omega
        · exact (H.prim _ (by omega)).bind fun _ r hr => (H.beh _ _ (by omega)).mono (by omega)
    · intro l hf; rw [primF]
      split
      · exact kind_pos ‹_› (by decide)
      split
      · exact kind_pos ‹_› (by decide)
      split
      · exact kind_pos ‹_› (by decide)
      split
      · exact sign_pos ‹_›
      split
      · exact sign_pos ‹_›
      split
      · exact sign_pos ‹_›
      split
      · have := sign_pos ‹_›
        exact (H.expr _ _ (by omega)).bind fun _ r hr => (fin_want _ _).bind fun _ r2 hr2 => by show r2.length < _; omega
      split
      · have := sign_pos ‹_›
        exact (H.fun_ _ _ _ (by omega)).mono (by omega)
      · exact (fin_want _ _).bind fun _ r hr => (fin_want _ _).bind fun _ r hr => (fin_want _ _).bind fun _ r hr => (fin_want _ _).bind fun _ r hr => (H.list _ _ _ _ (by omega)).bind fun _ r2 hr2 => by show r2.length < _; omega
    · intro s b ks l hf; rw [listF]
      split
      · exact sign_pos ‹_›
      · refine Fin.bind (k := l.length + 1) ?_ fun _ r hr => (H.expr _ _ (by omega)).bind fun _ r2 hr2 => (H.list _ _ _ _ (by omega)).mono (by omega)
        split
        · exact Nat.lt_succ_self _
        · exact (fin_want _ _).mono (by omega)
    · intro a l hf; rw [behF]
      split
      · have := sign_pos ‹_›
        exact (H.list _ _ _ _ (by omega)).bind fun _ r hr => (H.beh _ _ (by omega)).mono (by omega)
      split
      · have := sign_pos ‹_›
        exact (H.ins _ _ (by omega)).bind fun _ r hr => (H.beh _ _ (by omega)).mono (by omega)
      · exact Nat.lt_succ_self _
    · intro a l hf; rw [insF]
      split
      · exact (fin_want _ _).bind fun _ r hr => (H.end_ _ _ _ (by omega)).mono (by omega)
      · refine (H.expr _ _ (by omega)).bind fun _ r hr => ?_
        split
        · have := sign_pos ‹_›
          show r.tail.length < _; omega
        · exact (fin_want _ _).bind fun _ r2 hr2 => (H.end_ _ _ _ (by omega)).mono (by omega)
    · intro a b l hf; rw [endF]
      refine Fin.bind (k := l.length + 1) ?_ fun _ r hr => (fin_want _ _).bind fun _ r2 hr2 => by show r2.length < _; omega
      split
      · exact Nat.lt_succ_self _
      · exact (H.expr _ _ (by omega)).mono (by omega)
    · intro k s l hf; rw [funF]
      exact (fin_want _ _).bind fun _ r hr => (fin_pars _ _ _ (by omega)).bind fun _ r2 hr2 => (fin_res _ _ (by omega)).bind fun _ r3 hr3 => (H.block _ (by omega)).bind fun _ r4 hr4 => by show r4.length < _; omega
    · intro l hf; rw [blockF]
      exact (fin_want _ _).bind fun _ r hr => (H.stms _ _ (by omega)).bind fun _ r2 hr2 => by show r2.length < _; omega
    · intro ks l hf; rw [stmsF]
      split
      · exact sign_pos ‹_›
      split
      · have := kind_pos ‹_› (by decide)
        exact (H.stms _ _ (by omega)).mono (by omega)
      · refine (H.stm _ (by omega)).bind fun _ r hr => ?_
        split
        · exact (H.stms _ _ (by omega)).mono (by omega)
        · exact trivial
    · intro l hf; rw [stmF]
      split
      · exact H.block _ (by omega)
      split
      · have := sign_pos ‹_›
        exact (fin_name _).bind fun _ r hr => ((fin_typ f).1 _ (by omega)).bind fun _ r2 hr2 => by show r2.length < _; omega
      split
      · have := sign_pos ‹_›
        exact (H.ifs _ (by omega)).mono (by omega)
      split
      · have := sign_pos ‹_›
        refine Fin.bind (k := l.length) ?_ fun _ r hr => (H.block _ (by omega)).bind fun _ r2 hr2 => by show r2.length < _; omega
        split
        · exact this
        · exact (H.expr _ _ (by omega)).bind fun _ r hr => by show r.length < _; omega
      split
      · exact sign_pos ‹_›
      split
      · exact sign_pos ‹_›
      split
      · have := sign_pos ‹_›
        split
        · exact this
        · exact (H.expr _ _ (by omega)).bind fun _ r hr => by show r.length < _; omega
      split
      · have := sign_pos ‹_›
        refine (H.expr _ _ (by omega)).bind fun _ r hr => ?_
        split
        · show r.length < _; omega
        · exact trivial
      · exact H.sim _ (by omega)
    · intro l hf; rw [ifsF]
      refine (H.expr _ _ (by omega)).bind fun _ r hr => (H.block _ (by omega)).bind fun _ r2 hr2 => ?_
      split
      · have := sign_pos ‹_›
        refine Fin.bind (k := r2.length) ?_ fun _ r3 hr3 => by show r3.length < _; omega
        split
        · have := sign_pos ‹_›
          exact (H.ifs _ (by omega)).mono (by omega)
        · exact (H.block _ (by omega)).mono (by omega)
      · show r2.length < _; omega
    · intro l hf; rw [simF]
      split
      · have := define_pos ‹_›
        exact (H.expr _ _ (by omega)).bind fun _ r hr => by show r.length < _; omega
      · refine (H.expr _ _ (by omega)).bind fun _ r hr => ?_
        split
        · have := sign_pos ‹_›
          split
          · exact (H.expr _ _ (by omega)).bind fun _ r2 hr2 => by show r2.length < _; omega
          · exact trivial
        · split
          · show r.length < _; omega
          · exact trivial
end Go.Proofs.Ytgonekmmbeedeaa.Pa
