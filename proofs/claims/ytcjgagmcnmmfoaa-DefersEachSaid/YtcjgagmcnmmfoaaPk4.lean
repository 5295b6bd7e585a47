/-
  Parts of the proof of a law: Wel, Fit, Wnt, Wnl, Wnf, Gtf. No condition.
-/
import Derived.Test.YtcjgagmcnmmfoaaPk1
import Derived.Test.YtcjgagmcnmmfoaaPk2
import Derived.Test.YtcjgagmcnmmfoaaPk3
set_option maxRecDepth 20000
set_option maxHeartbeats 16000000
set_option linter.unusedVariables false
set_option linter.unusedSimpArgs false
namespace Go.Proofs.Ytcjgagmcnmmfoaa.Pa
open Go.RowKit

def NmOk (s : ByteArray) : Prop := s.size ≤ 16 ∧ lex s.data.toList = .tok 1 s.size
def QtOk (s : ByteArray) : Prop := s.size ≤ 200 ∧ okAll s.data.toList
def VtOk (s : ByteArray) : Prop := Ty.validB s.data.toList = true
def isExpr (k : Int) : Prop := 21 ≤ k ∧ k ≤ 33 ∧ k ≠ 31
inductive GT : T → Prop
 | file (ks : List T) : (∀ t ∈ ks, GT t) → (∀ t ∈ ks, kindT t = 2) → GT (.node 1 noB noB 0 ks)
 | func (k : Int) (s : ByteArray) (ps : List T) (q b : T) : (k = 2 ∧ NmOk s ∨ k = 33 ∧ s = noB) → (∀ t ∈ ps, GT t) → (∀ t ∈ ps, kindT t = 3) → ps.length ≤ 4 → GT q → kindT q = 4 → GT b → kindT b = 5 → GT (.node k s noB ps.length (ps ++ [q, b]))
 | named (k : Int) (s t : ByteArray) : k = 3 ∨ k = 6 → NmOk s → VtOk t → GT (.node k s t 0 [])
 | res0 : GT (.node 4 noB noB 0 [])
 | res (s t : ByteArray) : (s = noB ∨ NmOk s) → VtOk t → GT (.node 4 s t 0 [])
 | block (ks : List T) : (∀ t ∈ ks, GT t) → (∀ t ∈ ks, 5 ≤ kindT t ∧ kindT t ≤ 15) → GT (.node 5 noB noB 0 ks)
 | define (s : ByteArray) (a : T) : NmOk s → GT a → isExpr (kindT a) → GT (.node 7 s noB 0 [a])
 | assign (a b : T) : GT a → GT b → placeT a = true → isExpr (kindT a) → isExpr (kindT b) → GT (.node 8 noB noB 0 [a, b])
 | calls (k : Int) (a : T) : k = 9 ∨ k = 15 → GT a → kindT a = 28 → GT (.node k noB noB 0 [a])
 | if2 (a b : T) : GT a → GT b → isExpr (kindT a) → kindT b = 5 → GT (.node 10 noB noB 0 [a, b])
 | if3 (a b c : T) : GT a → GT b → GT c → isExpr (kindT a) → kindT b = 5 → (kindT c = 5 ∨ kindT c = 10) → GT (.node 10 noB noB 0 [a, b, c])
 | for1 (b : T) : GT b → kindT b = 5 → GT (.node 11 noB noB 0 [b])
 | for2 (a b : T) : GT a → GT b → isExpr (kindT a) → kindT b = 5 → GT (.node 11 noB noB 0 [a, b])
 | bare (k : Int) : k = 12 ∨ k = 13 ∨ k = 14 ∨ k = 24 ∨ k = 31 → GT (.node k noB noB 0 [])
 | ret (a : T) : GT a → isExpr (kindT a) → GT (.node 14 noB noB 0 [a])
 | int (n : Int) : 0 ≤ n → GT (.node 21 noB noB n [])
 | text (s : ByteArray) : QtOk s → GT (.node 22 s noB 0 [])
 | bool (n : Int) : n = 0 ∨ n = 1 → GT (.node 23 noB noB n [])
 | name (s : ByteArray) : NmOk s → GT (.node 25 s noB 0 [])
 | una (s : ByteArray) (a : T) : (s.data.toList = [45] ∨ s.data.toList = [33] ∨ s.data.toList = [42] ∨ s.data.toList = [38] ∧ kindT a = 25) → GT a → isExpr (kindT a) → GT (.node 26 s noB 0 [a])
 | bin (s : ByteArray) (a b : T) : 0 < level s.data.toList → GT a → GT b → isExpr (kindT a) → isExpr (kindT b) → GT (.node 27 s noB 0 [a, b])
 | call (a : T) (ks : List T) : GT a → (∀ t ∈ ks, GT t) → isExpr (kindT a) → (∀ t ∈ ks, isExpr (kindT t)) → GT (.node 28 noB noB 0 (a :: ks))
 | idx (a b : T) : GT a → GT b → isExpr (kindT a) → isExpr (kindT b) → GT (.node 29 noB noB 0 [a, b])
 | cut (a b c : T) : GT a → GT b → GT c → isExpr (kindT a) → (isExpr (kindT b) ∨ kindT b = 31) → (isExpr (kindT c) ∨ kindT c = 31) → GT (.node 30 noB noB 0 [a, b, c])
 | list (ks : List T) : (∀ t ∈ ks, GT t) → (∀ t ∈ ks, isExpr (kindT t)) → GT (.node 32 noB noB 0 ks)

structure TkOk (t : Tk) : Prop where
 nm : t.1 = 1 → NmOk t.2
 num : t.1 = 2 → 0 ≤ numOf t.2
 qt : t.1 = 3 → QtOk (sayOf t.2)
def TksOk (l : List Tk) : Prop := ∀ t ∈ l, TkOk t
theorem TksOk.tail {l : List Tk} (h : TksOk l) : TksOk l.tail := fun t ht => h t (List.mem_of_mem_tail ht)
theorem TksOk.nm {l : List Tk} (h : TksOk l) (hk : kindOf l = 1) : NmOk (textOf l) := by
 cases l with
 | nil => cases hk
 | cons t r => exact (h t (by simp)).nm hk
theorem TksOk.num {l : List Tk} (h : TksOk l) (hk : kindOf l = 2) : 0 ≤ numOf (textOf l) := by
 cases l with
 | nil => cases hk
 | cons t r => exact (h t (by simp)).num hk
theorem TksOk.qt {l : List Tk} (h : TksOk l) (hk : kindOf l = 3) : QtOk (sayOf (textOf l)) := by
 cases l with
 | nil => cases hk
 | cons t r => exact (h t (by simp)).qt hk
def Yld {α : Type} (P : α → Prop) (p : Pr α) : Prop := match p with
 | .ok a r => P a ∧ TksOk r
 | _ => True
theorem Yld.bind {α β : Type} {P : α → Prop} {Q : β → Prop} {x : Pr α} {f : α → List Tk → Pr β} (h : Yld P x) (g : ∀ a r, P a → TksOk r → Yld Q (f a r)) : Yld Q (x.bind f) := by
 cases x with
 | ok a r => exact g a r h.1 h.2
 | bad => exact trivial
 | out => exact trivial
theorem Yld.mono {α : Type} {P Q : α → Prop} {x : Pr α} (h : Yld P x) (g : ∀ a, P a → Q a) : Yld Q x := by
 cases x with
 | ok a r => exact ⟨g a h.1, h.2⟩
 | bad => exact trivial
 | out => exact trivial
theorem yld_want (s : Bs) {l : List Tk} (h : TksOk l) : Yld (fun _ => True) (want s l) := by
 unfold want
 split
 ·exact ⟨trivial, h.tail⟩
 ·exact trivial
theorem yld_name {l : List Tk} (h : TksOk l) : Yld NmOk (nmM l) := by
 unfold nmM
 split
 ·exact ⟨h.nm ‹_›, h.tail⟩
 ·exact trivial
theorem yld_first {b : Bool} {s : Bs} {l : List Tk} (h : TksOk l) : Yld (fun _ => True) (if b = true then .ok () l else want s l) := by
 split
 ·exact ⟨trivial, h⟩
 ·exact yld_want _ h
theorem first_in {ss : List Bs} {l : List Tk} {s : Bs} (h : firstOf ss l = some s) : s ∈ ss := List.mem_of_find?_eq_some h
theorem func_valid {l : List ByteArray} {R : ByteArray} (h : (Ty.funcM l R).2 = 0) : Ty.validB (Ty.funcM l R).1 = true := by
 unfold Ty.funcM at h ⊢
 split
 ·rename_i c; rw [if_pos c] at h; exact absurd h (by decide)
 rename_i c1; rw [if_neg c1] at h
 split
 ·rename_i c; rw [if_pos c] at h; exact absurd h (by decide)
 rename_i c2; rw [if_neg c2] at h
 split
 ·rename_i c; rw [if_pos c] at h; exact absurd h (by decide)
 rename_i c3; rw [if_neg c3] at h
 split
 ·rename_i c; rw [if_pos c] at h; exact absurd h (by decide)
 rename_i c4
 have hv : ∀ p ∈ Ty.partsOf l, Ty.validB p = true := by
  have : (Ty.partsOf l).all Ty.validB = true := by simpa using c2
  exact List.all_eq_true.1 this
 refine Ty.parts_valid (Ty.parts_made (ps := Ty.partsOf l) (q := R.data.toList) (by simp [Ty.partsOf]; omega) hv (fun hq => ?_) (by unfold Ty.madeB at c4; omega))
 simp only [Bool.and_eq_true, Bool.not_eq_true', beq_eq_false_iff_ne, ne_eq, not_and, Bool.not_eq_false] at c3
 exact c3 hq
theorem yld_typ : ∀ f, (∀ l, TksOk l → Yld (fun s => Ty.validB s = true) (typF f l)) ∧ (∀ ps l, TksOk l → Yld (fun _ => True) (typsF f ps l))
 | 0 => ⟨fun l h => by rw [typF]; exact trivial, fun _ l h => by rw [typsF]; exact trivial⟩
 | f + 1 => by
  obtain ⟨h1, h2⟩ := yld_typ f
  constructor
  ·intro l hl
   rw [typF]
   split
   ·refine ⟨?_, hl.tail⟩
    have := first_in ‹_›
    simp only [tyNames, List.mem_cons, List.not_mem_nil, or_false] at this
    rcases this with rfl | rfl | rfl | rfl <;> decide
   ·split
    ·exact (yld_want _ hl.tail).bind fun _ r _ hr => (yld_want _ hr).bind fun _ r2 _ hr2 => ⟨by decide, hr2⟩
    ·split
     ·exact (yld_want _ hl.tail).bind fun _ r2 _ hr2 => ⟨by decide, hr2⟩
     ·refine (yld_want _ hl).bind fun _ r _ hr => (yld_want _ hr).bind fun _ r _ hr => (h2 _ _ hr).bind fun ps r3 _ hr3 => ?_
      refine Yld.bind (P := fun _ => True) ?_ fun q r4 _ hr4 => ?_
      ·split
       ·exact (h1 _ hr3).mono fun _ _ => trivial
       ·exact ⟨trivial, hr3⟩
      ·split
       ·exact ⟨func_valid ‹_›, hr4⟩
       ·exact trivial
  ·intro ps l hl
   rw [typsF]
   split
   ·exact ⟨trivial, hl.tail⟩
   ·refine Yld.bind (P := fun _ => True) ?_ fun _ r _ hr => (h1 _ hr).bind fun _ r2 _ hr2 => h2 _ _ hr2
    split
    ·exact ⟨trivial, hl⟩
    ·exact yld_want _ hl
theorem yld_type {f : Nat} {l : List Tk} (hl : TksOk l) : Yld (fun s => VtOk (sB s)) (typF f l) := ((yld_typ f).1 l hl).mono fun s h => h
def ParsOk (ps : List T) : Prop := (∀ t ∈ ps, GT t) ∧ (∀ t ∈ ps, kindT t = 3) ∧ ps.length ≤ 4
theorem all_snoc {p : T → Prop} {l : List T} {a : T} (h : ∀ t ∈ l, p t) (ha : p a) : ∀ t ∈ l ++ [a], p t := by
 intro t ht
 rcases List.mem_append.1 ht with h1 | h1
 ·exact h t h1
 ·rw [List.mem_singleton.1 h1]; exact ha
theorem yld_pars : ∀ f ps l, ParsOk ps → TksOk l → Yld ParsOk (parsF f ps l)
 | 0, _, l, _, _ => by rw [parsF]; exact trivial
 | f + 1, ps, l, hp, hl => by
  rw [parsF]
  split
  ·exact ⟨hp, hl.tail⟩
  ·refine Yld.bind (P := fun _ => True) ?_ fun _ r _ hr => ?_
   ·split
    ·exact ⟨trivial, hl⟩
    ·exact yld_want _ hl
   ·split
    ·exact trivial
    ·rename_i h4
     refine (yld_name hr).bind fun s r2 hs hr2 => (yld_type hr2).bind fun t r3 ht hr3 => yld_pars f _ _ ⟨all_snoc hp.1 (.named 3 _ _ (.inl rfl) hs ht), all_snoc hp.2.1 rfl, ?_⟩ hr3
     have := hp.2.2
     simp; omega
theorem yld_res (f : Nat) {l : List Tk} (hl : TksOk l) : Yld (fun t => GT t ∧ kindT t = 4) (resF f l) := by
 unfold resF
 split
 ·exact (yld_name hl.tail).bind fun s r hs hr => (yld_type hr).bind fun t r2 ht hr2 => (yld_want _ hr2).bind fun _ r3 _ hr3 => ⟨⟨.res _ _ (.inr hs) ht, rfl⟩, hr3⟩
 ·split
  ·exact (yld_type hl).bind fun t r2 ht hr2 => ⟨⟨.res _ _ (.inl rfl) ht, rfl⟩, hr2⟩
  ·exact ⟨⟨.res0, rfl⟩, hl⟩
def Ex (t : T) : Prop := GT t ∧ isExpr (kindT t)
def Exs (l : List T) : Prop := (∀ t ∈ l, GT t) ∧ ∀ t ∈ l, isExpr (kindT t)
theorem Exs.nil : Exs [] := ⟨fun t h => (by cases h), fun t h => (by cases h)⟩
theorem Exs.snoc {l : List T} {a : T} (h : Exs l) (ha : Ex a) : Exs (l ++ [a]) := ⟨all_snoc h.1 ha.1, all_snoc h.2 ha.2⟩
theorem Exs.one {a : T} (ha : Ex a) : Exs [a] := Exs.nil.snoc ha
def Sts (l : List T) : Prop := (∀ t ∈ l, GT t) ∧ ∀ t ∈ l, 5 ≤ kindT t ∧ kindT t ≤ 15
def St (t : T) : Prop := GT t ∧ 5 ≤ kindT t ∧ kindT t ≤ 15
theorem Sts.snoc {l : List T} {a : T} (h : Sts l) (ha : St a) : Sts (l ++ [a]) := ⟨all_snoc h.1 ha.1, all_snoc h.2 ha.2⟩
def Blk (t : T) : Prop := GT t ∧ kindT t = 5
theorem Blk.st {t : T} (h : Blk t) : St t := ⟨h.1, by rw [h.2]; exact ⟨by omega, by omega⟩⟩
theorem ie (k : Int) (h : 21 ≤ k ∧ k ≤ 33 ∧ k ≠ 31 := by decide) : isExpr k := h
theorem si (k : Int) (h : 5 ≤ k ∧ k ≤ 15 := by decide) : 5 ≤ k ∧ k ≤ 15 := h
structure YldAll (f : Nat) : Prop where
 expr : ∀ n l, TksOk l → Yld Ex (exprF f n l)
 loop : ∀ n a l, Ex a → TksOk l → Yld Ex (loopF f n a l)
 unary : ∀ l, TksOk l → Yld Ex (unaryF f l)
 prim : ∀ l, TksOk l → Yld Ex (primF f l)
 list : ∀ s b ks l, Exs ks → TksOk l → Yld (fun ks' => Exs ks' ∧ ks.length ≤ ks'.length) (listF f s b ks l)
 beh : ∀ a l, Ex a → TksOk l → Yld Ex (behF f a l)
 ins : ∀ a l, Ex a → TksOk l → Yld Ex (insF f a l)
 end_ : ∀ a b l, Ex a → (GT b ∧ (isExpr (kindT b) ∨ kindT b = 31)) → TksOk l → Yld Ex (endF f a b l)
 fun_ : ∀ k s l, (k = 2 ∧ NmOk s ∨ k = 33 ∧ s = noB) → TksOk l → Yld (fun t => GT t ∧ kindT t = k) (funF f k s l)
 block : ∀ l, TksOk l → Yld Blk (blockF f l)
 stms : ∀ ks l, Sts ks → TksOk l → Yld Sts (stmsF f ks l)
 stm : ∀ l, TksOk l → Yld St (stmF f l)
 ifs : ∀ l, TksOk l → Yld (fun t => GT t ∧ kindT t = 10) (ifsF f l)
 sim : ∀ l, TksOk l → Yld St (simF f l)
theorem binop_lev {n : Nat} {l : List Tk} {p : ByteArray × Nat} (h : binop n l = some p) : 0 < level p.1.data.toList := by
 unfold binop at h
 split at h
 ·split at h
  ·cases h
  ·injection h with h
   subst h
   simp only
   omega
 ·cases h
theorem define_kind {l : List Tk} (h : isDefine l = true) : kindOf l = 1 := by
 unfold isDefine at h
 simp only [Bool.and_eq_true, beq_iff_eq] at h
 exact h.1
theorem exprs_cons {ks : List T} (h : Exs ks) (h1 : 1 ≤ ks.length) : Ex (nd 28 ks) := by
 cases ks with
 | nil => simp at h1
 | cons a r => exact ⟨.call a r (h.1 a (by simp)) (fun t ht => h.1 t (by simp [ht])) (h.2 a (by simp)) (fun t ht => h.2 t (by simp [ht])), ie 28⟩
theorem yld_all : ∀ f, YldAll f
 | 0 => by
  constructor <;> intros <;> (first | rw [exprF] | rw [loopF] | rw [unaryF] | rw [primF] | rw [listF] | rw [behF] | rw [insF] | rw [endF] | rw [funF] | rw [blockF] | rw [stmsF] | rw [stmF] | rw [ifsF] | rw [simF]) <;> exact trivial
 | f + 1 => by
  have H := yld_all f
  constructor
  ·intro n l hl; rw [exprF]; exact (H.unary _ hl).bind fun _ r ha hr => H.loop _ _ _ ha hr
  ·intro n a l ha hl; rw [loopF]
   split
   ·have hv := binop_lev ‹_›
    exact (H.expr _ _ hl.tail).bind fun b r hb hr => H.loop _ _ _ ⟨.bin _ a b hv ha.1 hb.1 ha.2 hb.2, ie 27⟩ hr
   ·exact ⟨ha, hl⟩
  ·intro l hl; rw [unaryF]
   split
   ·rename_i s hs
    have hv := first_in hs
    simp only [unOps, List.mem_cons, List.not_mem_nil, or_false] at hv
    refine (H.unary _ hl.tail).bind fun a r ha hr => ⟨⟨.una (sB s) a ?_ ha.1 ha.2, ie 26⟩, hr⟩
    rcases hv with rfl | rfl | rfl
    ·exact .inl rfl
    ·exact .inr (.inl rfl)
    ·exact .inr (.inr (.inl rfl))
   ·split
    ·exact (yld_name hl.tail).bind fun s r hs hr => ⟨⟨.una (sB [38]) _ (.inr (.inr (.inr ⟨rfl, rfl⟩))) (.name s hs) (ie 25), ie 26⟩, hr⟩
    ·exact (H.prim _ hl).bind fun a r ha hr => H.beh _ _ ha hr
  ·intro l hl; rw [primF]
   split
   ·exact ⟨⟨.name _ (hl.nm ‹_›), ie 25⟩, hl.tail⟩
   split
   ·exact ⟨⟨.int _ (hl.num ‹_›), ie 21⟩, hl.tail⟩
   split
   ·exact ⟨⟨.text _ (hl.qt ‹_›), ie 22⟩, hl.tail⟩
   split
   ·exact ⟨⟨.bool 1 (.inr rfl), ie 23⟩, hl.tail⟩
   split
   ·exact ⟨⟨.bool 0 (.inl rfl), ie 23⟩, hl.tail⟩
   split
   ·exact ⟨⟨.bare 24 (by decide), ie 24⟩, hl.tail⟩
   split
   ·exact (H.expr _ _ hl.tail).bind fun a r ha hr => (yld_want _ hr).bind fun _ r2 _ hr2 => ⟨ha, hr2⟩
   split
   ·exact (H.fun_ _ _ _ (.inr ⟨rfl, rfl⟩) hl.tail).mono fun t ht => ⟨ht.1, by rw [ht.2]; exact ie 33⟩
   ·exact (yld_want _ hl).bind fun _ r _ hr => (yld_want _ hr).bind fun _ r _ hr => (yld_want _ hr).bind fun _ r _ hr => (yld_want _ hr).bind fun _ r _ hr => (H.list _ _ _ _ Exs.nil hr).bind fun ks r2 hks hr2 => ⟨⟨.list ks hks.1.1 hks.1.2, ie 32⟩, hr2⟩
  ·intro s b ks l hk hl; rw [listF]
   split
   ·exact ⟨⟨hk, Nat.le_refl _⟩, hl.tail⟩
   ·exact (yld_first hl).bind fun _ r _ hr => (H.expr _ _ hr).bind fun a r2 ha hr2 => (H.list _ _ _ _ (hk.snoc ha) hr2).mono fun ks' h => ⟨h.1, by have := h.2; simp at this; omega⟩
  ·intro a l ha hl; rw [behF]
   split
   ·exact (H.list _ _ _ _ (Exs.one ha) hl.tail).bind fun ks r hk hr => H.beh _ _ (exprs_cons hk.1 hk.2) hr
   split
   ·exact (H.ins _ _ ha hl.tail).bind fun _ r hb hr => H.beh _ _ hb hr
   ·exact ⟨ha, hl⟩
  ·intro a l ha hl; rw [insF]
   split
   ·exact (yld_want _ hl).bind fun _ r _ hr => H.end_ _ _ _ ha ⟨.bare 31 (by decide), .inr rfl⟩ hr
   ·refine (H.expr _ _ hl).bind fun b r hb hr => ?_
    split
    ·exact ⟨⟨.idx a b ha.1 hb.1 ha.2 hb.2, ie 29⟩, hr.tail⟩
    ·exact (yld_want _ hr).bind fun _ r2 _ hr2 => H.end_ _ _ _ ha ⟨hb.1, .inl hb.2⟩ hr2
  ·intro a b l ha hb hl; rw [endF]
   refine Yld.bind (P := fun c => GT c ∧ (isExpr (kindT c) ∨ kindT c = 31)) ?_ fun c r hc hr => (yld_want _ hr).bind fun _ r2 _ hr2 => ⟨⟨.cut a b c ha.1 hb.1 hc.1 ha.2 hb.2 hc.2, ie 30⟩, hr2⟩
   split
   ·exact ⟨⟨.bare 31 (by decide), .inr rfl⟩, hl⟩
   ·exact (H.expr _ _ hl).mono fun c hc => ⟨hc.1, .inl hc.2⟩
  ·intro k s l hk hl; rw [funF]
   exact (yld_want _ hl).bind fun _ r _ hr => (yld_pars _ _ _ ⟨fun t h => (by cases h), fun t h => (by cases h), by simp⟩ hr).bind fun ps r2 hps hr2 => (yld_res _ hr2).bind fun q r3 hq hr3 => (H.block _ hr3).bind fun b r4 hb hr4 =>
    ⟨⟨.func k s ps q b hk hps.1 hps.2.1 hps.2.2 hq.1 hq.2 hb.1 hb.2, rfl⟩, hr4⟩
  ·intro l hl; rw [blockF]
   exact (yld_want _ hl).bind fun _ r _ hr => (H.stms _ _ ⟨fun t h => (by cases h), fun t h => (by cases h)⟩ hr).bind fun ks r2 hk hr2 => ⟨⟨.block ks hk.1 hk.2, rfl⟩, hr2⟩
  ·intro ks l hk hl; rw [stmsF]
   split
   ·exact ⟨hk, hl.tail⟩
   split
   ·exact H.stms _ _ hk hl.tail
   ·refine (H.stm _ hl).bind fun a r ha hr => ?_
    split
    ·exact H.stms _ _ (hk.snoc ha) hr
    ·exact trivial
  ·intro l hl; rw [stmF]
   split
   ·exact (H.block _ hl).mono fun _ h => h.st
   split
   ·exact (yld_name hl.tail).bind fun s r hs hr => (yld_type hr).bind fun t r2 ht hr2 => ⟨⟨.named 6 _ _ (.inr rfl) hs ht, si 6⟩, hr2⟩
   split
   ·exact (H.ifs _ hl.tail).mono fun t h => ⟨h.1, by rw [h.2]; exact si 10⟩
   split
   ·refine Yld.bind (P := fun ks => ks = [] ∨ ∃ a, ks = [a] ∧ Ex a) ?_ fun ks r hk hr => (H.block _ hr).bind fun b r2 hb hr2 => ?_
    ·split
     ·exact ⟨.inl rfl, hl.tail⟩
     ·exact (H.expr _ _ hl.tail).bind fun a r ha hr => ⟨.inr ⟨a, rfl, ha⟩, hr⟩
    ·rcases hk with rfl | ⟨a, rfl, ha⟩
     ·exact ⟨⟨.for1 b hb.1 hb.2, si 11⟩, hr2⟩
     ·exact ⟨⟨.for2 a b ha.1 hb.1 ha.2 hb.2, si 11⟩, hr2⟩
   split
   ·exact ⟨⟨.bare 12 (by decide), si 12⟩, hl.tail⟩
   split
   ·exact ⟨⟨.bare 13 (by decide), si 13⟩, hl.tail⟩
   split
   ·split
    ·exact ⟨⟨.bare 14 (by decide), si 14⟩, hl.tail⟩
    ·exact (H.expr _ _ hl.tail).bind fun a r ha hr => ⟨⟨.ret a ha.1 ha.2, si 14⟩, hr⟩
   split
   ·refine (H.expr _ _ hl.tail).bind fun a r ha hr => ?_
    split
    ·exact ⟨⟨.calls 15 a (.inr rfl) ha.1 ‹_›, si 15⟩, hr⟩
    ·exact trivial
   ·exact H.sim _ hl
  ·intro l hl; rw [ifsF]
   refine (H.expr _ _ hl).bind fun a r ha hr => (H.block _ hr).bind fun b r2 hb hr2 => ?_
   split
   ·refine Yld.bind (P := fun c => GT c ∧ (kindT c = 5 ∨ kindT c = 10)) ?_ fun c r3 hc hr3 => ⟨⟨.if3 a b c ha.1 hb.1 hc.1 ha.2 hb.2 hc.2, rfl⟩, hr3⟩
    split
    ·exact (H.ifs _ hr2.tail.tail).mono fun c hc => ⟨hc.1, .inr hc.2⟩
    ·exact (H.block _ hr2.tail).mono fun c hc => ⟨hc.1, .inl hc.2⟩
   ·exact ⟨⟨.if2 a b ha.1 hb.1 ha.2 hb.2, rfl⟩, hr2⟩
  ·intro l hl; rw [simF]
   split
   ·exact (H.expr _ _ hl.tail.tail).bind fun a r ha hr => ⟨⟨.define _ a (hl.nm (define_kind ‹_›)) ha.1 ha.2, si 7⟩, hr⟩
   ·refine (H.expr _ _ hl).bind fun a r ha hr => ?_
    split
    ·split
     ·rename_i hp
      exact (H.expr _ _ hr.tail).bind fun b r2 hb hr2 => ⟨⟨.assign a b ha.1 hb.1 hp ha.2 hb.2, si 8⟩, hr2⟩
     ·exact trivial
    ·split
     ·exact ⟨⟨.calls 9 a (.inl rfl) ha.1 ‹_›, si 9⟩, hr⟩
     ·exact trivial
end Go.Proofs.Ytcjgagmcnmmfoaa.Pa

namespace Go.Proofs.Ytcjgagmcnmmfoaa.Pa
open Go.RowKit

inductive Fit
 | expr
 | stated
 | orn
 | blif
 | only (k : Int)
def Fit.fits : Fit → Int → Prop
 | .expr, k => isExpr k
 | .stated, k => 5 ≤ k ∧ k ≤ 15
 | .orn, k => isExpr k ∨ k = 31
 | .blif, k => k = 5 ∨ k = 10
 | .only m, k => k = m
def FnV (w : World) (v : Value) : Fit → Prop
 | .expr => v = .func (.func 64) #[] #[]
 | .stated => v = .func (.func 67) #[] #[]
 | .orn => v = .func (.func 69) #[] #[]
 | .blif => v = .func (.func 68) #[] #[]
 | .only k => ∃ p, v = .func (.func 73) #[] #[.pointer (some ⟨p, 0, none⟩)] ∧ w.heap[p]? = some (.cells #[.int .i64 k] 3 (0, 0))
theorem FnV.touch {T : TypeId} (hT : 3 ≠ T) {w w' : World} {v : Value} {f : Fit} (h : FnV w v f) (ht : Touch T w w') : FnV w' v f := by
 cases f with
 | only k =>
  obtain ⟨p, e, hp⟩ := h
  exact ⟨p, e, ht.2 p _ hp (by intro c fr e; injection e with _ e2; exact hT e2)⟩
 | _ => exact h
theorem FnV.kp {w w' : World} {v : Value} {f : Fit} (h : FnV w v f) (hk : Kp w w') : FnV w' v f := by
 cases f with
 | only k =>
  obtain ⟨p, e, hp⟩ := h
  exact ⟨p, e, (hk.block p (blk_lt hp)).trans hp⟩
 | _ => exact h
def CeFit (w : World) (cs : List Value) (f : Fit) : Prop := ∃ v, cs = [v] ∧ FnV w v f
theorem CeFit.kp : ElKp CeFit := fun _ _ _ _ hk ⟨v, h, h0⟩ => ⟨v, h, h0.kp hk⟩
theorem elFit : El Try.prog 88 76 .nilFunc 1 8 := El.mk_ Try.underlying88 (by kernel_rfl) rfl (by omega)
theorem expr_yes {k : Int} (h : isExpr k) (w : World) : Calls Try.prog 65 #[.int .i64 k] w fun e w' => e = .returned (.bool true) ∧ w = w' := by
 obtain ⟨h1, h2, h3⟩ := h
 have h4 : (k != 31) = true := by rw [bne_iff_ne]; exact h3
 clear h3
 go_enter Try.func65, Try.ntmps65
 go_wp2
 go_ret
 exact ⟨rfl, rfl⟩
theorem expr_31 (w : World) : Calls Try.prog 65 #[.int .i64 31] w fun e w' => e = .returned (.bool false) ∧ w = w' := by
 go_enter Try.func65, Try.ntmps65
 go_wp2
 go_ret
 exact ⟨rfl, rfl⟩
theorem stated_yes {k : Int} (h1 : 5 ≤ k) (h2 : k ≤ 15) (w : World) : Calls Try.prog 67 #[.int .i64 k] w fun e w' => e = .returned (.bool true) ∧ w = w' := by
 go_enter Try.func67, Try.ntmps67
 go_wp2
 go_ret
 exact ⟨rfl, rfl⟩
theorem orn_yes {k : Int} (h : isExpr k ∨ k = 31) (w : World) : Calls Try.prog 69 #[.int .i64 k] w fun e w' => e = .returned (.bool true) ∧ w = w' := by
 rcases h with h | rfl
 ·go_enter Try.func69, Try.ntmps69
  go_wp2_with (go_at_call 65; go_must (refine (expr_yes h _).mono ?_); rintro e w1 ⟨rfl, rfl⟩)
  go_ret
  exact ⟨rfl, rfl⟩
 ·go_enter Try.func69, Try.ntmps69
  go_wp2_with (go_at_call 65; go_must (refine (expr_31 _).mono ?_); rintro e w1 ⟨rfl, rfl⟩)
  go_ret
  exact ⟨rfl, rfl⟩
theorem wexpr_yes {k : Int} (h : isExpr k) (w : World) : Calls Try.prog 64 #[.int .i64 k] w fun e w' => e = .returned (.bool true) ∧ w = w' := by
 go_enter Try.func64, Try.ntmps64
 go_wp2_with (go_at_call 65; go_must (refine (expr_yes h _).mono ?_); rintro e w1 ⟨rfl, rfl⟩)
 go_ret
 exact ⟨rfl, rfl⟩
theorem blif_yes {k : Int} (h : k = 5 ∨ k = 10) (w : World) : Calls Try.prog 68 #[.int .i64 k] w fun e w' => e = .returned (.bool true) ∧ w = w' := by
 rcases h with rfl | rfl <;>
 ·go_enter Try.func68, Try.ntmps68
  go_wp2
  go_ret
  exact ⟨rfl, rfl⟩
theorem only1_yes {k : Int} {p : Nat} {w : World} (hp : w.heap[p]? = some (.cells #[.int .i64 k] 3 (0, 0))) : Calls Try.prog 73 #[.int .i64 k, .pointer (some ⟨p, 0, none⟩)] w fun e w' => e = .returned (.bool true) ∧ w = w' := by
 have hc := blk_cell (o := 0) hp rfl
 clear hp
 go_enter Try.func73, Try.ntmps73
 go_wp2
 go_ret
 exact ⟨by simp, rfl⟩
theorem only_any (k : Int) (w : World) : Calls Try.prog 66 #[.int .i64 k] w fun e w' => (∃ v, e = .returned v ∧ FnV w' v (.only k)) ∧ Kp w w' := by
 go_enter Try.func66, Try.ntmps66
 go_wp2
 go_ret
 exact ⟨⟨_, rfl, _, rfl, blk_new _ _⟩, (Kp.refl _).alloc _⟩
end Go.Proofs.Ytcjgagmcnmmfoaa.Pa

namespace Go.Proofs.Ytcjgagmcnmmfoaa.Pa
open Go.RowKit

structure WSv (w0 : World) (bp np : Nat) (cs : Array Value) (v : Value) (fs : List Fit) (w : World) : Prop where
 kp : Kp w0 w
 bg : w0.heap.size ≤ bp
 ng : w0.heap.size ≤ np
 node : w.heap[np]? = some (.cells cs 37 (0, 0))
 box : w.heap[bp]? = some (.cells #[v] 88 (0, 0))
 row : OwnL CeFit 1 76 w w0.heap.size v fs
section
variable {w0 w w' : World} {bp np : Nat} {cs : Array Value} {v v' : Value} {fs gs : List Fit}
theorem WSv.keep (h : WSv w0 bp np cs v fs w) (hk : Kp w w') : WSv w0 bp np cs v fs w' := ⟨h.kp.trans hk, h.bg, h.ng, (hk.block _ (blk_lt h.node)).trans h.node, (hk.block _ (blk_lt h.box)).trans h.box, h.row.kp CeFit.kp hk⟩
theorem WSv.form (h : WSv w0 bp np cs v fs w) : ∃ A c, v = .slice A fs.length c := by obtain ⟨xs, h1, _⟩ := h.row; exact own_form h1
theorem WSv.fr (h : WSv w0 bp np cs v fs w) {xs : List Value} (hx : w.ownsRow w0.heap.size 76 1 v fs.length xs) (g : w.grownBy w' v.ownBlock) : w'.frozen? ⟨bp, 0, none⟩ = false ∧ w'.cell? ⟨bp, 0, none⟩ = some v := by
 have hb := (Touch.of_grown hx g).2 _ _ h.box (by intro c f e; injection e with _ e2; exact absurd e2 (by decide))
 exact ⟨blk_free hb, blk_cell (o := 0) hb rfl⟩
structure WSa (w0 : World) (bp np : Nat) (cs : Array Value) (v v' : Value) (fs : List Fit) (w : World) : Prop where
 kp : Kp w0 w
 bg : w0.heap.size ≤ bp
 ng : w0.heap.size ≤ np
 node : w.heap[np]? = some (.cells cs 37 (0, 0))
 box : w.heap[bp]? = some (.cells #[v] 88 (0, 0))
 row : OwnL CeFit 1 76 w w0.heap.size v' fs
theorem WSa.keep (h : WSa w0 bp np cs v v' fs w) (hk : Kp w w') : WSa w0 bp np cs v v' fs w' := ⟨h.kp.trans hk, h.bg, h.ng, (hk.block _ (blk_lt h.node)).trans h.node, (hk.block _ (blk_lt h.box)).trans h.box, h.row.kp CeFit.kp hk⟩
theorem WSa.set (h : WSa w0 bp np cs v v' fs w) : WSv w0 bp np cs v' fs (w.setCell ⟨bp, 0, none⟩ v') := by
 have hne : np ≠ bp := by
  intro e
  have n1 := h.node
  rw [e, h.box] at n1
  injection n1 with n1; injection n1 with _ n1; exact absurd n1 (by decide)
 have ht2 := rowTouch (o := 0) h.box v'
 obtain ⟨xs, r1, r2⟩ := h.row
 exact ⟨Kp.setCell h.kp h.bg _, h.bg, h.ng, (blk_far (p := ⟨bp, 0, none⟩) hne v').trans h.node, blk_set h.box v', xs, ownsRow_touch (by decide) r1 ht2, r2.mono fun c f hf => by
  obtain ⟨y, e, hy⟩ := hf
  exact ⟨y, e, hy.touch (by decide) ht2⟩⟩
theorem WSv.app (h : WSv w0 bp np cs v fs w) {m : Nat} {xs vs : List Value} (hx : w.ownsRow w0.heap.size 76 1 v fs.length xs) (k2 : Chunk CeFit 1 w xs fs) (hg : Chunk CeFit 1 w vs gs) (hm : m = gs.length) (h1 : w'.ownsRow w0.heap.size 76 1 v' (fs.length + m) (xs ++ vs)) (g : w.grownBy w' v.ownBlock) :
  WSa w0 bp np cs v v' (fs ++ gs) w' := by
 subst hm
 have ht := Touch.of_grown hx g
 refine ⟨Below.trans h.kp (own_below hx g h.kp.le), h.bg, h.ng, ht.2 _ _ h.node (by intro c f e; injection e with _ e2; exact absurd e2 (by decide)), ht.2 _ _ h.box (by intro c f e; injection e with _ e2; exact absurd e2 (by decide)), xs ++ vs, by rw [List.length_append]; exact h1, Chunk.append (hg.mono fun c f hf => ?_) (k2.mono fun c f hf => ?_)⟩
 ·obtain ⟨y, e, hy⟩ := hf
  exact ⟨y, e, hy.touch (by decide) ht⟩
 ·obtain ⟨y, e, hy⟩ := hf
  exact ⟨y, e, hy.touch (by decide) ht⟩
end
theorem fits1 {w : World} {v : Value} {f : Fit} (h : FnV w v f) : Chunk CeFit 1 w [v] [f] := Chunk.one ⟨v, rfl, h⟩ rfl
theorem fits2 {w : World} {v u : Value} {f g : Fit} (h : FnV w v f) (k : FnV w u g) : Chunk CeFit 1 w [v, u] [f, g] := Chunk.append (l := [f]) (xs := [v]) (fits1 k) (fits1 h)
theorem fits3 {w : World} {v u t : Value} {f g e : Fit} (h : FnV w v f) (k : FnV w u g) (j : FnV w t e) : Chunk CeFit 1 w [v, u, t] [f, g, e] := Chunk.append (l := [f]) (xs := [v]) (fits2 k j) (fits1 h)
theorem WSv.start (w : World) (cs : Array Value) : WSv w (w.heap.size + 1) w.heap.size cs (.slice none 0 0) [] ((w.alloc (.cells cs 37)).alloc (.cells #[.slice none 0 0] 88)) :=
 ⟨((Kp.refl _).alloc _).alloc _, Nat.le_succ _, Nat.le_refl _, (((Kp.refl (w.alloc (.cells cs 37))).alloc _).block _ (by simp)).trans (blk_new _ _), by have := blk_new (w.alloc (.cells cs 37)) (.cells #[.slice none 0 0] 88); simpa using this, OwnL.nil _ _ _ _ _⟩
def WantsC (k n : Int) (nk : Nat) (fs : List Fit) : Prop := ∀ (w : World) (s t : ByteArray) (A : Option Addr) (c : Nat), Calls Try.prog 51 #[.agg #[.int .i64 k, .string s, .string t, .int .i64 n, .slice A nk c]] w fun e w' =>
 (∃ v, e = .returned (.tuple #[v, .bool true]) ∧ OwnL CeFit 1 76 w' w.heap.size v fs) ∧ Kp w w'
theorem want56 {W : World} {Q : Exit → Act → World → Prop} {s0 s2 s3 s5 s6 s7 s8 s9 s10 s11 s12 s13 s14 s15 s16 s17 s18 s19 s20 s21 s22 s23 s24 s25 s26 s27 s28 s29 s30 s31 s32 s33 s34 s35 s36 s37 s38 s39 s40 s41 s42 s43 s44 s45 s46 s47 s48 s49 s50 s51 s52 s53 s54 s55 s56 s57 s58 s59 s60 s61 s62 s63 s64 s65 s66 s67 s68 s69 s70 s71 s72 s73 s74 s75 s76 s77 s78 s79 s80 s81 s82 s83 s84 s85 s86 s87 s88 s89 s90 s91 s92 s93 s94 s95 s96 s97 s98 s99 s100 s101 s102 s103 s104 s105 s106 s107 s108 s109 s110 s111 s112 s113 s114 s115 s116 s117 s118 s119 s120 s121 s122 s123 s124 s125 s126 s127 s128 s129 s130 s131 s132 s133 s134 s135 s136 s137 : Value} {bp np nk c cv : Nat} {A Av : Option Addr} (lt1 : bp < W.heap.size) (lt2 : np < W.heap.size) (q0 : W.cell? ⟨bp, 0, none⟩ = some (.slice Av nk cv)) (q1 : W.cell? ⟨np, 4, none⟩ = some (.slice A nk c))
  (hE : ∀ u, Kp W u → Q .normal { tmps := #[s0, .pointer (some ⟨np, 0, none⟩), .slice Av nk cv, .bool true, .pointer (some ⟨bp, 0, none⟩), s5, s6, s7, s8, s9, s10, s11, s12, s13, s14, s15, s16, s17, s18, s19, s20, s21, s22, s23, s24, s25, s26, s27, s28, s29, s30, s31, s32, s33, s34, s35, s36, s37, s38, s39, s40, s41, s42, s43, s44, s45, s46, s47, s48, s49, s50, s51, s52, s53, s54, s55, s56, s57, s58, s59, s60, s61, s62, s63, s64, s65, s66, s67, s68, s69, s70, s71, s72, s73, s74, s75, s76, s77, s78, s79, s80, s81, s82, s83, s84, s85, s86, s87, s88, s89, s90, s91, s92, s93, s94, s95, s96, s97, s98, s99, s100, s101, s102, s103, s104, s105, s106, s107, s108, s109, s110, s111, s112, s113, s114, s115, s116, s117, s118, s119, s120, s121, s122, s123, s124, s125, s126, s127, s128, s129, s130, .slice Av nk cv, .slice Av nk cv, .int .i64 (nk : Int), .pointer (some ⟨np, 4, none⟩), .slice A nk c, .int .i64 (nk : Int), .bool true], defers := [] } u) :
  (Code.region 56 (regArr Try.f51 56) true).wp Try.prog Q { tmps := #[s0, .pointer (some ⟨np, 0, none⟩), s2, s3, .pointer (some ⟨bp, 0, none⟩), s5, s6, s7, s8, s9, s10, s11, s12, s13, s14, s15, s16, s17, s18, s19, s20, s21, s22, s23, s24, s25, s26, s27, s28, s29, s30, s31, s32, s33, s34, s35, s36, s37, s38, s39, s40, s41, s42, s43, s44, s45, s46, s47, s48, s49, s50, s51, s52, s53, s54, s55, s56, s57, s58, s59, s60, s61, s62, s63, s64, s65, s66, s67, s68, s69, s70, s71, s72, s73, s74, s75, s76, s77, s78, s79, s80, s81, s82, s83, s84, s85, s86, s87, s88, s89, s90, s91, s92, s93, s94, s95, s96, s97, s98, s99, s100, s101, s102, s103, s104, s105, s106, s107, s108, s109, s110, s111, s112, s113, s114, s115, s116, s117, s118, s119, s120, s121, s122, s123, s124, s125, s126, s127, s128, s129, s130, s131, s132, s133, s134, s135, s136, s137], defers := [] } W := by
 simp only [regArr, Try.f51, Option.map_some, Option.getD_some, regOf, if_true, if_false, List.append_nil, List.nil_append, List.toList_toArray, Nat.reduceEqDiff, reduceIte]
 refine wp_region_kp [[], [], [1], [], [3], [4], [2, 5], [0], [6]] (fun u => Kp W u)
  [eqV (.slice Av nk cv), eqV (.slice Av nk cv), eqV (.int .i64 (nk : Int)), eqV (.pointer (some ⟨np, 4, none⟩)), eqV (.slice A nk c), eqV (.int .i64 (nk : Int)), eqV (.bool true), eqV (.slice Av nk cv), eqV (.bool true)]
  (by kernel_rfl) (by kernel_rfl) (by kernel_rfl) (by kernel_rfl) ((Kp.refl _).drew) (fun _ _ hk h => h.trans hk) (by repeat' first | exact trivial | refine ⟨fun _ _ _ _ h => h, ?_⟩) ⟨?sb0, ?sb1, ?sb2, ?sb3, ?sb4, ?sb5, ?sb6, ?sb7, ?sb8, trivial⟩ ?hEb
 case sb0 | sb1 => exact OpStepK.op1 4 (.pointer (some ⟨bp, 0, none⟩)) (free_ (by kernel_rfl)) (fun _ _ _ => by kernel_rfl) fun a u e4 hg K hK => (by have q0 := cell_kp hg lt1 q0; go_simp; exact hK.out _ _ (Kp.refl _) rfl)
 case sb2 => exact OpStepK.op1 132 (.slice Av nk cv) (free_ (by kernel_rfl)) (fun x _ h => Eq.trans (b := some (x 1)) (by kernel_rfl) (congrArg some h.1)) fun a u e132 hg K hK => (by go_simp; exact hK.out _ _ (Kp.refl _) rfl)
 case sb3 => exact OpStepK.op1 1 (.pointer (some ⟨np, 0, none⟩)) (free_ (by kernel_rfl)) (fun _ _ _ => by kernel_rfl) fun a u e1 hg K hK => (by go_simp; exact hK.out _ _ (Kp.refl _) rfl)
 case sb4 => exact OpStepK.op1 134 (.pointer (some ⟨np, 4, none⟩)) (free_ (by kernel_rfl)) (fun x _ h => Eq.trans (b := some (x 3)) (by kernel_rfl) (congrArg some h.1)) fun a u e134 hg K hK => (by have q0 := cell_kp hg lt2 q1; go_simp; exact hK.out _ _ (Kp.refl _) rfl)
 case sb5 => exact OpStepK.op1 135 (.slice A nk c) (free_ (by kernel_rfl)) (fun x _ h => Eq.trans (b := some (x 4)) (by kernel_rfl) (congrArg some h.1)) fun a u e135 hg K hK => (by go_simp; exact hK.out _ _ (Kp.refl _) rfl)
 case sb6 => exact OpStepK.op2 133 136 (.int .i64 (nk : Int)) (.int .i64 (nk : Int)) (free_ (by kernel_rfl)) (fun x _ h => Eq.trans (b := some (x 2)) (by kernel_rfl) (congrArg some h.1)) (fun x _ h => Eq.trans (b := some (x 5)) (by kernel_rfl) (congrArg some h.2.1)) fun a u e133 e136 hg K hK => (by go_simp; exact hK.out _ _ (Kp.refl _) rfl)
 case sb7 => exact OpStepK.as 131 (.slice Av nk cv) (by kernel_rfl) (free_ (by kernel_rfl)) (fun x _ h => Eq.trans (b := x 0) (by kernel_rfl) h.1) (fun _ => rfl)
 case sb8 => exact OpStepK.as 137 (.bool true) (by kernel_rfl) (free_ (by kernel_rfl)) (fun x _ h => Eq.trans (b := x 6) (by kernel_rfl) h.1) (fun _ => rfl)
 intro x u hg he
 obtain ⟨d0, d1, d2, d3, d4, d5, d6, d7, d8, -⟩ := he
 refine ⟨?_⟩
 simp only [putsFrom, Act.put, List.setIfInBounds_toArray, List.set_cons_zero, List.set_cons_succ, Nat.reduceAdd, d0, d1, d2, d3, d4, d5, d6, d7, d8]
 clear d0 d1 d2 d3 d4 d5 d6 d7 d8
 exact hE _ hg
theorem wants_bare (k n : Int) (hk : k = 3 ∨ k = 4 ∨ k = 6 ∨ k = 12 ∨ k = 13 ∨ k = 21 ∨ k = 22 ∨ k = 23 ∨ k = 24 ∨ k = 25 ∨ k = 31 ∨ k = 14) : WantsC k n 0 [] := by
 intro w s t A c
 rcases hk with rfl | rfl | rfl | rfl | rfl | rfl | rfl | rfl | rfl | rfl | rfl | rfl <;>
 ·go_enter Try.func51, Try.ntmps51
  go_upto_region 56 with fail
  refine want56 (nk := 0) (A := A) (c := c) (Av := none) (cv := 0) (by simp) (by simp; omega) (by simp) (by simp) (fun u hg => ?_)
  go_wp2
  go_ret2
  exact ⟨⟨_, rfl, OwnL.nil _ _ _ _ _⟩, (((Kp.refl _).alloc _).alloc _).trans hg⟩
theorem wants_e1 (k n : Int) (hk : k = 7 ∨ k = 26) : WantsC k n 1 [.expr] := by
 intro w s t A c
 have H0 := WSv.start w #[.int .i64 k, .string s, .string t, .int .i64 n, .slice A 1 c]
 rcases hk with rfl | rfl <;>
 ·go_enter Try.func51, Try.ntmps51
  go_upto_region 19 with fail
  have q0 := blk_cell (o := 0) H0.box rfl
  have q1 := blk_cell (o := 4) H0.node rfl
  have qf := blk_free (o := 0) H0.box
  obtain ⟨xs, hx, hc⟩ := H0.row
  have HS := hid H0; have HX := hid hx; have HC := hid hc; have HGE := hid H0.kp.le
  clear H0 hx hc
  generalize World.alloc _ _ = W at HS HX HC HGE q0 q1 qf ⊢
  go_wp2_with (at_builtin; go_must (refine app_lit_at W.heap.size ?r0 elFit ?r1 (.tmp 41) (.tmp 43) ?r2 (base := w.heap.size) HX.out ?r3 #[.func (.func 64) #[] #[]] 76 1 1 ?r4 ?r5 ?r6 ?r7 ?r8 HGE.out ?r9))
  case r0 => rfl
  case r1 => rfl
  case r2 => rfl
  case r3 => rfl
  case r4 => rfl
  case r5 => rfl
  case r6 => first | rfl | exact ⟨rfl, rfl⟩ | (intro u hu; simp at hu; subst hu; rfl)
  case r7 => decide
  case r8 => decide
  case r9 =>
   intro v6 w6 o6 g6 m6 b6
   obtain ⟨qf6, qc6⟩ := HS.out.fr HX.out g6
   have HS6 := hid (WSa.set (HS.out.app HX.out HC.out (fits1 (f := .expr) rfl) rfl o6 g6))
   obtain ⟨A6, c6, rfl⟩ := own_form o6
   clear o6 g6 m6 b6 q0 q1 qf HS HX HC HGE
   go_upto_region 56 with fail
   generalize World.setCell _ _ _ = W2 at HS6 ⊢
   refine want56 (nk := 1) (A := A) (c := c) (Av := A6) (cv := c6) (blk_lt HS6.out.box) (blk_lt HS6.out.node) (blk_cell (o := 0) HS6.out.box rfl) (blk_cell (o := 4) HS6.out.node rfl) (fun u hg => ?_)
   go_wp2
   go_ret2
   exact ⟨⟨_, rfl, (HS6.out.row.kp CeFit.kp hg)⟩, HS6.out.kp.trans hg⟩
theorem wants_e2 (k n : Int) (hk : k = 8 ∨ k = 27 ∨ k = 29) : WantsC k n 2 [.expr, .expr] := by
 intro w s t A c
 have H0 := WSv.start w #[.int .i64 k, .string s, .string t, .int .i64 n, .slice A 2 c]
 rcases hk with rfl | rfl | rfl <;>
 ·go_enter Try.func51, Try.ntmps51
  go_upto_region 23 with fail
  have q0 := blk_cell (o := 0) H0.box rfl
  have q1 := blk_cell (o := 4) H0.node rfl
  have qf := blk_free (o := 0) H0.box
  obtain ⟨xs, hx, hc⟩ := H0.row
  have HS := hid H0; have HX := hid hx; have HC := hid hc; have HGE := hid H0.kp.le
  clear H0 hx hc
  generalize World.alloc _ _ = W at HS HX HC HGE q0 q1 qf ⊢
  go_wp2_with (at_builtin; go_must (refine app_lit_at W.heap.size ?r0 elFit ?r1 (.tmp 49) (.tmp 52) ?r2 (base := w.heap.size) HX.out ?r3 #[.func (.func 64) #[] #[], .func (.func 64) #[] #[]] 76 2 2 ?r4 ?r5 ?r6 ?r7 ?r8 HGE.out ?r9))
  case r0 => rfl
  case r1 => rfl
  case r2 => rfl
  case r3 => rfl
  case r4 => rfl
  case r5 => rfl
  case r6 => first | rfl | exact ⟨rfl, rfl⟩ | (intro u hu; simp at hu; first | (subst hu; rfl) | (rcases hu with rfl | rfl <;> rfl) | (rcases hu with rfl | rfl | rfl <;> rfl))
  case r7 => decide
  case r8 => decide
  case r9 =>
   intro v6 w6 o6 g6 m6 b6
   obtain ⟨qf6, qc6⟩ := HS.out.fr HX.out g6
   have HS6 := hid (WSa.set (HS.out.app HX.out HC.out (fits2 (f := .expr) (g := .expr) rfl rfl) rfl o6 g6))
   obtain ⟨A6, c6, rfl⟩ := own_form o6
   clear o6 g6 m6 b6 q0 q1 qf HS HX HC HGE
   go_upto_region 56 with fail
   generalize World.setCell _ _ _ = W2 at HS6 ⊢
   refine want56 (nk := 2) (A := A) (c := c) (Av := A6) (cv := c6) (blk_lt HS6.out.box) (blk_lt HS6.out.node) (blk_cell (o := 0) HS6.out.box rfl) (blk_cell (o := 4) HS6.out.node rfl) (fun u hg => ?_)
   go_wp2
   go_ret2
   exact ⟨⟨_, rfl, (HS6.out.row.kp CeFit.kp hg)⟩, HS6.out.kp.trans hg⟩
theorem wants_e3 (k n : Int) (hk : k = 30 ∨ k = 30) : WantsC k n 3 [.expr, .orn, .orn] := by
 intro w s t A c
 have H0 := WSv.start w #[.int .i64 k, .string s, .string t, .int .i64 n, .slice A 3 c]
 rcases hk with rfl | rfl <;>
 ·go_enter Try.func51, Try.ntmps51
  go_upto_region 42 with fail
  have q0 := blk_cell (o := 0) H0.box rfl
  have q1 := blk_cell (o := 4) H0.node rfl
  have qf := blk_free (o := 0) H0.box
  obtain ⟨xs, hx, hc⟩ := H0.row
  have HS := hid H0; have HX := hid hx; have HC := hid hc; have HGE := hid H0.kp.le
  clear H0 hx hc
  generalize World.alloc _ _ = W at HS HX HC HGE q0 q1 qf ⊢
  go_wp2_with (at_builtin; go_must (refine app_lit_at W.heap.size ?r0 elFit ?r1 (.tmp 110) (.tmp 112) ?r2 (base := w.heap.size) HX.out ?r3 #[.func (.func 64) #[] #[], .func (.func 69) #[] #[], .func (.func 69) #[] #[]] 76 3 3 ?r4 ?r5 ?r6 ?r7 ?r8 HGE.out ?r9))
  case r0 => rfl
  case r1 => rfl
  case r2 => rfl
  case r3 => rfl
  case r4 => rfl
  case r5 => rfl
  case r6 => first | rfl | exact ⟨rfl, rfl⟩ | (intro u hu; simp at hu; first | (subst hu; rfl) | (rcases hu with rfl | rfl <;> rfl) | (rcases hu with rfl | rfl | rfl <;> rfl))
  case r7 => decide
  case r8 => decide
  case r9 =>
   intro v6 w6 o6 g6 m6 b6
   obtain ⟨qf6, qc6⟩ := HS.out.fr HX.out g6
   have HS6 := hid (WSa.set (HS.out.app HX.out HC.out (fits3 (f := .expr) (g := .orn) (e := .orn) rfl rfl rfl) rfl o6 g6))
   obtain ⟨A6, c6, rfl⟩ := own_form o6
   clear o6 g6 m6 b6 q0 q1 qf HS HX HC HGE
   go_upto_region 56 with fail
   generalize World.setCell _ _ _ = W2 at HS6 ⊢
   refine want56 (nk := 3) (A := A) (c := c) (Av := A6) (cv := c6) (blk_lt HS6.out.box) (blk_lt HS6.out.node) (blk_cell (o := 0) HS6.out.box rfl) (blk_cell (o := 4) HS6.out.node rfl) (fun u hg => ?_)
   go_wp2
   go_ret2
   exact ⟨⟨_, rfl, (HS6.out.row.kp CeFit.kp hg)⟩, HS6.out.kp.trans hg⟩
def FnAt (B : Nat) (k : Int) (y : Value) (u : World) : Prop := ∃ p, B ≤ p ∧ y = .func (.func 73) #[] #[.pointer (some ⟨p, 0, none⟩)] ∧ u.heap[p]? = some (.cells #[.int .i64 k] 3 (0, 0))
theorem FnAt.keep {B : Nat} {k : Int} {y : Value} {u u' : World} (h : FnAt B k y u) (hk : KpF B u u') : FnAt B k y u' := by
 obtain ⟨p, h1, h2, h3⟩ := h
 exact ⟨p, h1, h2, hk p _ h1 h3⟩
theorem FnAt.fn {B : Nat} {k : Int} {y : Value} {u : World} (h : FnAt B k y u) : FnV u y (.only k) := by
 obtain ⟨p, h1, h2, h3⟩ := h
 exact ⟨p, h2, h3⟩
theorem only_at (k : Int) (w : World) (B : Nat) (hB : B ≤ w.heap.size) : Calls Try.prog 66 #[.int .i64 k] w fun e w' => (∃ v, e = .returned v ∧ FnAt B k v w') ∧ Kp w w' := by
 go_enter Try.func66, Try.ntmps66
 go_wp2
 go_ret
 exact ⟨⟨_, rfl, _, hB, rfl, blk_new _ _⟩, (Kp.refl _).alloc _⟩
theorem wants_only (k n : Int) (hk : k = 9 ∨ k = 15) : WantsC k n 1 [.only 28] := by
 intro w s t A c
 have H0 := WSv.start w #[.int .i64 k, .string s, .string t, .int .i64 n, .slice A 1 c]
 rcases hk with rfl | rfl
 ·go_enter Try.func51, Try.ntmps51
  go_upto_region 26 with fail
  have HS := hid H0
  clear H0
  generalize World.alloc _ _ = W at HS ⊢
  have BB := hid (show w.heap.size + 1 < W.heap.size from blk_lt HS.out.box)
  refine wp_region_phase [3, 4] [(0, 0), (0, 0), (0, 0), (0, 0), (0, 0)] (KpF W.heap.size) [[], [], [1], [0, 2], [3]]
   (fun (p : Nat) (x : Nat → Value) (u : World) => match p with | 0 => WSv w (w.heap.size + 1) w.heap.size #[.int .i64 9, .string s, .string t, .int .i64 n, .slice A 1 c] (.slice none 0 0) [] u ∧ W.heap.size ≤ u.heap.size | 1 => ∃ A7 c7, x 3 = .slice A7 1 c7 ∧ WSa w (w.heap.size + 1) w.heap.size #[.int .i64 9, .string s, .string t, .int .i64 n, .slice A 1 c] (.slice none 0 0) (.slice A7 1 c7) [.only 28] u | _ => ∃ A7 c7, WSv w (w.heap.size + 1) w.heap.size #[.int .i64 9, .string s, .string t, .int .i64 n, .slice A 1 c] (.slice A7 1 c7) [.only 28] u)
   [fun (y : Value) (u : World) => y = (.slice none 0 0 : Value),
   fun (y : Value) (u : World) => FnAt W.heap.size 28 y u,
   fun (y : Value) (u : World) => ∃ v, FnAt W.heap.size 28 v u ∧ LitAt W.heap.size 76 #[v] y u,
   fun (y : Value) (u : World) => True,
   fun (y : Value) (u : World) => True]
   (by kernel_rfl) (by kernel_rfl) (by kernel_rfl) (by kernel_rfl) (by kernel_rfl) (by kernel_rfl) (fun _ _ hk => KpF.of_kp hk) (⟨HS.out.keep (Kp.refl _).drew, Nat.le_refl _⟩) ?hKc ?hXc ⟨fun _ _ _ _ h => h, fun _ _ _ hk h => h.keep hk, fun _ _ _ hk h => by obtain ⟨v, h1, h2⟩ := h; exact ⟨v, h1.keep hk, h2.keep hk⟩, fun _ _ _ _ _ => trivial, fun _ _ _ _ _ => trivial, trivial⟩ ⟨?sc0, ?sc1, ?sc2, ?sc3, ?sc4, trivial⟩ ?hEc
  case hKc =>
   intro p x w w' hk h
   rcases p with _ | _ | p
   ·exact ⟨h.1.keep hk, Nat.le_trans h.2 hk.le⟩
   ·exact (by obtain ⟨A7, c7, h1, h2⟩ := h; exact ⟨A7, c7, h1, h2.keep hk⟩)
   ·exact (by obtain ⟨A7, c7, h1⟩ := h; exact ⟨A7, c7, h1.keep hk⟩)
  case hXc =>
   intro p x i v w hi h
   have e0 : upd x i v 3 = x 3 := if_neg (fun hh => hi (by rw [← hh]; decide))
   have e1 : upd x i v 4 = x 4 := if_neg (fun hh => hi (by rw [← hh]; decide))
   rcases p with _ | _ | p
   ·first | exact h | (simp only [e0, e1]; exact h)
   ·first | exact h | (simp only [e0, e1]; exact h)
   ·first | exact h | (simp only [e0, e1]; exact h)
  case sc0 =>
   refine OpStepQ.off 0 0 (by kernel_rfl) (by kernel_rfl) ?_
   intro x u p hp hg hd K hK
   obtain rfl : p = 0 := by omega
   change WSv w (w.heap.size + 1) w.heap.size #[.int .i64 9, .string s, .string t, .int .i64 n, .slice A 1 c] (.slice none 0 0) [] u ∧ W.heap.size ≤ u.heap.size at hg
   clear hd
   have q := blk_cell (o := 0) hg.1.box rfl
   clear hg
   refine ⟨?_⟩
   simp only [putsFrom, Act.put, List.setIfInBounds_toArray, List.set_cons_zero, List.set_cons_succ, Nat.reduceAdd] at hK ⊢
   go_simp
   exact hK.out _ _ (Kp.refl _) rfl
  case sc1 =>
   refine OpStepQ.off 0 0 (by kernel_rfl) (by kernel_rfl) ?_
   intro x u p hp hg hd K hK
   obtain rfl : p = 0 := by omega
   change WSv w (w.heap.size + 1) w.heap.size #[.int .i64 9, .string s, .string t, .int .i64 n, .slice A 1 c] (.slice none 0 0) [] u ∧ W.heap.size ≤ u.heap.size at hg
   clear hd
   refine ⟨?_⟩
   simp only [putsFrom, Act.put, List.setIfInBounds_toArray, List.set_cons_zero, List.set_cons_succ, Nat.reduceAdd] at hK ⊢
   go_simp
   go_at_call 66
   have hc := only_at 28 u W.heap.size hg.2
   refine hc.mono ?_
   clear hc
   rintro e u' ⟨⟨f1, rfl, hf⟩, hk9⟩
   dsimp only
   exact hK.out _ _ hk9 hf
  case sc2 =>
   refine OpStepQ.off 0 0 (by kernel_rfl) (by kernel_rfl) ?_
   intro x u p hp hg hd K hK
   obtain rfl : p = 0 := by omega
   change WSv w (w.heap.size + 1) w.heap.size #[.int .i64 9, .string s, .string t, .int .i64 n, .slice A 1 c] (.slice none 0 0) [] u ∧ W.heap.size ≤ u.heap.size at hg
   have d1 : FnAt W.heap.size 28 (x 1) u := hd.1
   clear hd
   obtain ⟨p1, hb1, e1, hh1⟩ := d1
   refine ⟨?_⟩
   simp only [putsFrom, Act.put, List.setIfInBounds_toArray, List.set_cons_zero, List.set_cons_succ, Nat.reduceAdd, e1] at hK ⊢
   go_simp
   exact hK.out _ _ ((Kp.refl _).alloc _) ⟨_, ⟨p1, hb1, rfl, KpF.of_kp ((Kp.refl _).alloc _) _ _ hb1 hh1⟩, _, rfl, hg.2, blk_new _ _⟩
  case sc3 =>
   refine OpStepQ.on 0 (by kernel_rfl) (by kernel_rfl) ?_
   intro x u hg hd K hK
   change WSv w (w.heap.size + 1) w.heap.size #[.int .i64 9, .string s, .string t, .int .i64 n, .slice A 1 c] (.slice none 0 0) [] u ∧ W.heap.size ≤ u.heap.size at hg
   have d0 : (x 0) = .slice none 0 0 := hd.1
   have d2 : ∃ v, FnAt W.heap.size 28 v u ∧ LitAt W.heap.size 76 #[v] (x 2) u := hd.2.1
   clear hd
   obtain ⟨v1, f1, b, e6, hb6, hlit⟩ := d2
   obtain ⟨xs, l1, l2⟩ := hg.1.row
   refine ⟨?_⟩
   simp only [putsFrom, Act.put, List.setIfInBounds_toArray, List.set_cons_zero, List.set_cons_succ, Nat.reduceAdd, d0, e6] at hK ⊢
   rw [if_pos (by simp [Region.wanted])]
   refine wp_appP elFit (.tmp 57) (.tmp 59) (by rfl) l1 (by rfl) [v1] _ 1 1 (by rfl) rfl (fun _ => ⟨_, rfl, lit_src hlit⟩) (by intro u hu; simp at hu; subst hu; obtain ⟨p, _, rfl, _⟩ := f1; rfl) (by decide) (by decide) hg.1.kp.le ?_
   intro v' w' G1 G2 G3 G4
   have HP := hg.1.app l1 l2 (fits1 f1.fn) rfl G1 G2
   obtain ⟨A', c', rfl⟩ := own_form G1
   exact hK.out _ w' (KpF.of_grown G2 (fun g hg => by cases hg)) ⟨A', c', rfl, HP⟩ trivial
  case sc4 =>
   refine OpStepQ.on 1 (by kernel_rfl) (by kernel_rfl) ?_
   intro x u hg hd K hK
   change ∃ A7 c7, x 3 = .slice A7 1 c7 ∧ WSa w (w.heap.size + 1) w.heap.size #[.int .i64 9, .string s, .string t, .int .i64 n, .slice A 1 c] (.slice none 0 0) (.slice A7 1 c7) [.only 28] u at hg
   clear hd
   obtain ⟨A7, c7, e7, hg2⟩ := hg
   have q := blk_cell (o := 0) hg2.box rfl
   have qf := blk_free (o := 0) hg2.box
   have HG1 := hid hg2
   clear hg2
   refine ⟨?_⟩
   simp only [putsFrom, Act.put, List.setIfInBounds_toArray, List.set_cons_zero, List.set_cons_succ, Nat.reduceAdd, e7] at hK ⊢
   go_simp
   exact hK.out undef _ (KpF.setCell BB.out _) ⟨A7, c7, HG1.out.set⟩ trivial
  intro x u hg he
  have d0 : (x 0) = .slice none 0 0 := he.1
  have d1 : FnAt W.heap.size 28 (x 1) u := he.2.1
  have d2 : ∃ v, FnAt W.heap.size 28 v u ∧ LitAt W.heap.size 76 #[v] (x 2) u := he.2.2.1
  clear he
  change ∃ A7 c7, WSv w (w.heap.size + 1) w.heap.size #[.int .i64 9, .string s, .string t, .int .i64 n, .slice A 1 c] (.slice A7 1 c7) [.only 28] u at hg
  refine ⟨?_⟩
  simp only [putsFrom, Act.put, List.setIfInBounds_toArray, List.set_cons_zero, List.set_cons_succ, Nat.reduceAdd, d0]
  clear d0
  obtain ⟨A7, c7, h7⟩ := hg
  have HS6 := hid h7
  clear h7
  go_upto_region 56 with fail
  refine want56 (nk := 1) (A := A) (c := c) (Av := A7) (cv := c7) (blk_lt HS6.out.box) (blk_lt HS6.out.node) (blk_cell (o := 0) HS6.out.box rfl) (blk_cell (o := 4) HS6.out.node rfl) (fun u2 hg2 => ?_)
  go_wp2
  go_ret2
  exact ⟨⟨_, rfl, (HS6.out.row.kp CeFit.kp hg2)⟩, HS6.out.kp.trans hg2⟩
 ·go_enter Try.func51, Try.ntmps51
  go_upto_region 26 with fail
  have HS := hid H0
  clear H0
  generalize World.alloc _ _ = W at HS ⊢
  have BB := hid (show w.heap.size + 1 < W.heap.size from blk_lt HS.out.box)
  refine wp_region_phase [3, 4] [(0, 0), (0, 0), (0, 0), (0, 0), (0, 0)] (KpF W.heap.size) [[], [], [1], [0, 2], [3]]
   (fun (p : Nat) (x : Nat → Value) (u : World) => match p with | 0 => WSv w (w.heap.size + 1) w.heap.size #[.int .i64 15, .string s, .string t, .int .i64 n, .slice A 1 c] (.slice none 0 0) [] u ∧ W.heap.size ≤ u.heap.size | 1 => ∃ A7 c7, x 3 = .slice A7 1 c7 ∧ WSa w (w.heap.size + 1) w.heap.size #[.int .i64 15, .string s, .string t, .int .i64 n, .slice A 1 c] (.slice none 0 0) (.slice A7 1 c7) [.only 28] u | _ => ∃ A7 c7, WSv w (w.heap.size + 1) w.heap.size #[.int .i64 15, .string s, .string t, .int .i64 n, .slice A 1 c] (.slice A7 1 c7) [.only 28] u)
   [fun (y : Value) (u : World) => y = (.slice none 0 0 : Value),
   fun (y : Value) (u : World) => FnAt W.heap.size 28 y u,
   fun (y : Value) (u : World) => ∃ v, FnAt W.heap.size 28 v u ∧ LitAt W.heap.size 76 #[v] y u,
   fun (y : Value) (u : World) => True,
   fun (y : Value) (u : World) => True]
   (by kernel_rfl) (by kernel_rfl) (by kernel_rfl) (by kernel_rfl) (by kernel_rfl) (by kernel_rfl) (fun _ _ hk => KpF.of_kp hk) (⟨HS.out.keep (Kp.refl _).drew, Nat.le_refl _⟩) ?hKd ?hXd ⟨fun _ _ _ _ h => h, fun _ _ _ hk h => h.keep hk, fun _ _ _ hk h => by obtain ⟨v, h1, h2⟩ := h; exact ⟨v, h1.keep hk, h2.keep hk⟩, fun _ _ _ _ _ => trivial, fun _ _ _ _ _ => trivial, trivial⟩ ⟨?sd0, ?sd1, ?sd2, ?sd3, ?sd4, trivial⟩ ?hEd
  case hKd =>
   intro p x w w' hk h
   rcases p with _ | _ | p
   ·exact ⟨h.1.keep hk, Nat.le_trans h.2 hk.le⟩
   ·exact (by obtain ⟨A7, c7, h1, h2⟩ := h; exact ⟨A7, c7, h1, h2.keep hk⟩)
   ·exact (by obtain ⟨A7, c7, h1⟩ := h; exact ⟨A7, c7, h1.keep hk⟩)
  case hXd =>
   intro p x i v w hi h
   have e0 : upd x i v 3 = x 3 := if_neg (fun hh => hi (by rw [← hh]; decide))
   have e1 : upd x i v 4 = x 4 := if_neg (fun hh => hi (by rw [← hh]; decide))
   rcases p with _ | _ | p
   ·first | exact h | (simp only [e0, e1]; exact h)
   ·first | exact h | (simp only [e0, e1]; exact h)
   ·first | exact h | (simp only [e0, e1]; exact h)
  case sd0 =>
   refine OpStepQ.off 0 0 (by kernel_rfl) (by kernel_rfl) ?_
   intro x u p hp hg hd K hK
   obtain rfl : p = 0 := by omega
   change WSv w (w.heap.size + 1) w.heap.size #[.int .i64 15, .string s, .string t, .int .i64 n, .slice A 1 c] (.slice none 0 0) [] u ∧ W.heap.size ≤ u.heap.size at hg
   clear hd
   have q := blk_cell (o := 0) hg.1.box rfl
   clear hg
   refine ⟨?_⟩
   simp only [putsFrom, Act.put, List.setIfInBounds_toArray, List.set_cons_zero, List.set_cons_succ, Nat.reduceAdd] at hK ⊢
   go_simp
   exact hK.out _ _ (Kp.refl _) rfl
  case sd1 =>
   refine OpStepQ.off 0 0 (by kernel_rfl) (by kernel_rfl) ?_
   intro x u p hp hg hd K hK
   obtain rfl : p = 0 := by omega
   change WSv w (w.heap.size + 1) w.heap.size #[.int .i64 15, .string s, .string t, .int .i64 n, .slice A 1 c] (.slice none 0 0) [] u ∧ W.heap.size ≤ u.heap.size at hg
   clear hd
   refine ⟨?_⟩
   simp only [putsFrom, Act.put, List.setIfInBounds_toArray, List.set_cons_zero, List.set_cons_succ, Nat.reduceAdd] at hK ⊢
   go_simp
   go_at_call 66
   have hc := only_at 28 u W.heap.size hg.2
   refine hc.mono ?_
   clear hc
   rintro e u' ⟨⟨f1, rfl, hf⟩, hk9⟩
   dsimp only
   exact hK.out _ _ hk9 hf
  case sd2 =>
   refine OpStepQ.off 0 0 (by kernel_rfl) (by kernel_rfl) ?_
   intro x u p hp hg hd K hK
   obtain rfl : p = 0 := by omega
   change WSv w (w.heap.size + 1) w.heap.size #[.int .i64 15, .string s, .string t, .int .i64 n, .slice A 1 c] (.slice none 0 0) [] u ∧ W.heap.size ≤ u.heap.size at hg
   have d1 : FnAt W.heap.size 28 (x 1) u := hd.1
   clear hd
   obtain ⟨p1, hb1, e1, hh1⟩ := d1
   refine ⟨?_⟩
   simp only [putsFrom, Act.put, List.setIfInBounds_toArray, List.set_cons_zero, List.set_cons_succ, Nat.reduceAdd, e1] at hK ⊢
   go_simp
   exact hK.out _ _ ((Kp.refl _).alloc _) ⟨_, ⟨p1, hb1, rfl, KpF.of_kp ((Kp.refl _).alloc _) _ _ hb1 hh1⟩, _, rfl, hg.2, blk_new _ _⟩
  case sd3 =>
   refine OpStepQ.on 0 (by kernel_rfl) (by kernel_rfl) ?_
   intro x u hg hd K hK
   change WSv w (w.heap.size + 1) w.heap.size #[.int .i64 15, .string s, .string t, .int .i64 n, .slice A 1 c] (.slice none 0 0) [] u ∧ W.heap.size ≤ u.heap.size at hg
   have d0 : (x 0) = .slice none 0 0 := hd.1
   have d2 : ∃ v, FnAt W.heap.size 28 v u ∧ LitAt W.heap.size 76 #[v] (x 2) u := hd.2.1
   clear hd
   obtain ⟨v1, f1, b, e6, hb6, hlit⟩ := d2
   obtain ⟨xs, l1, l2⟩ := hg.1.row
   refine ⟨?_⟩
   simp only [putsFrom, Act.put, List.setIfInBounds_toArray, List.set_cons_zero, List.set_cons_succ, Nat.reduceAdd, d0, e6] at hK ⊢
   rw [if_pos (by simp [Region.wanted])]
   refine wp_appP elFit (.tmp 57) (.tmp 59) (by rfl) l1 (by rfl) [v1] _ 1 1 (by rfl) rfl (fun _ => ⟨_, rfl, lit_src hlit⟩) (by intro u hu; simp at hu; subst hu; obtain ⟨p, _, rfl, _⟩ := f1; rfl) (by decide) (by decide) hg.1.kp.le ?_
   intro v' w' G1 G2 G3 G4
   have HP := hg.1.app l1 l2 (fits1 f1.fn) rfl G1 G2
   obtain ⟨A', c', rfl⟩ := own_form G1
   exact hK.out _ w' (KpF.of_grown G2 (fun g hg => by cases hg)) ⟨A', c', rfl, HP⟩ trivial
  case sd4 =>
   refine OpStepQ.on 1 (by kernel_rfl) (by kernel_rfl) ?_
   intro x u hg hd K hK
   change ∃ A7 c7, x 3 = .slice A7 1 c7 ∧ WSa w (w.heap.size + 1) w.heap.size #[.int .i64 15, .string s, .string t, .int .i64 n, .slice A 1 c] (.slice none 0 0) (.slice A7 1 c7) [.only 28] u at hg
   clear hd
   obtain ⟨A7, c7, e7, hg2⟩ := hg
   have q := blk_cell (o := 0) hg2.box rfl
   have qf := blk_free (o := 0) hg2.box
   have HG1 := hid hg2
   clear hg2
   refine ⟨?_⟩
   simp only [putsFrom, Act.put, List.setIfInBounds_toArray, List.set_cons_zero, List.set_cons_succ, Nat.reduceAdd, e7] at hK ⊢
   go_simp
   exact hK.out undef _ (KpF.setCell BB.out _) ⟨A7, c7, HG1.out.set⟩ trivial
  intro x u hg he
  have d0 : (x 0) = .slice none 0 0 := he.1
  have d1 : FnAt W.heap.size 28 (x 1) u := he.2.1
  have d2 : ∃ v, FnAt W.heap.size 28 v u ∧ LitAt W.heap.size 76 #[v] (x 2) u := he.2.2.1
  clear he
  change ∃ A7 c7, WSv w (w.heap.size + 1) w.heap.size #[.int .i64 15, .string s, .string t, .int .i64 n, .slice A 1 c] (.slice A7 1 c7) [.only 28] u at hg
  refine ⟨?_⟩
  simp only [putsFrom, Act.put, List.setIfInBounds_toArray, List.set_cons_zero, List.set_cons_succ, Nat.reduceAdd, d0]
  clear d0
  obtain ⟨A7, c7, h7⟩ := hg
  have HS6 := hid h7
  clear h7
  go_upto_region 56 with fail
  refine want56 (nk := 1) (A := A) (c := c) (Av := A7) (cv := c7) (blk_lt HS6.out.box) (blk_lt HS6.out.node) (blk_cell (o := 0) HS6.out.box rfl) (blk_cell (o := 4) HS6.out.node rfl) (fun u2 hg2 => ?_)
  go_wp2
  go_ret2
  exact ⟨⟨_, rfl, (HS6.out.row.kp CeFit.kp hg2)⟩, HS6.out.kp.trans hg2⟩
end Go.Proofs.Ytcjgagmcnmmfoaa.Pa

namespace Go.Proofs.Ytcjgagmcnmmfoaa.Pa
open Go.RowKit

def lenAt (w : World) (b : Nat) : Nat := match w.cell? ⟨b, 0, none⟩ with | some (.slice _ n _) => n | _ => 0
theorem WSv.len {w0 w : World} {bp np : Nat} {cs : Array Value} {v : Value} {fs : List Fit} (h : WSv w0 bp np cs v fs w) : lenAt w bp = fs.length := by
 obtain ⟨A, c, rfl⟩ := h.form
 unfold lenAt
 rw [blk_cell (o := 0) (v := .slice A fs.length c) h.box rfl]
theorem WSv.fnv {w0 w w' : World} {bp np : Nat} {cs : Array Value} {v g : Value} {fs : List Fit} {f : Fit} (h : WSv w0 bp np cs v fs w) (hf : FnV w g f) {xs : List Value} (hx : w.ownsRow w0.heap.size 76 1 v fs.length xs) (gr : w.grownBy w' v.ownBlock) (hb : w'.heap[bp]? = some (.cells #[v] 88 (0, 0))) (v' : Value) : FnV (w'.setCell ⟨bp, 0, none⟩ v') g f :=
 (hf.touch (by decide) (Touch.of_grown hx gr)).touch (by decide) (rowTouch (o := 0) hb v')
def LitN (B : Nat) (T : TypeId) (cs : Array Value) (n : Nat) (y : Value) (u : World) : Prop := ∃ b, y = .slice (some ⟨b, 0, none⟩) n n ∧ B ≤ b ∧ u.heap[b]? = some (.cells cs T (0, 0))
theorem LitN.keep {B : Nat} {T : TypeId} {cs : Array Value} {n : Nat} {y : Value} {u u' : World} (h : LitN B T cs n y u) (hk : KpF B u u') : LitN B T cs n y u' := by
 obtain ⟨b, h1, h2, h3⟩ := h
 exact ⟨b, h1, h2, hk b _ h2 h3⟩
theorem FnV.shape {w : World} {v : Value} {f : Fit} (h : FnV w v f) : ∃ F cs, v = .func (.func F) #[] cs := by
 cases f with
 | only k => obtain ⟨p, rfl, _⟩ := h; exact ⟨_, _, rfl⟩
 | _ => exact ⟨_, _, h⟩
theorem FnV.one {w : World} {v : Value} {f : Fit} (h : FnV w v f) : v.oneCell' = true := by
 cases f with
 | only k => obtain ⟨p, rfl, _⟩ := h; rfl
 | _ => rw [h]; rfl
theorem row_typeF {w : World} {base size n g : Nat} {e : TypeId} {v : Value} {xs : List Value} (h : w.ownsRow base e size v n xs) (hg : v.ownBlock = some g) : ∃ cs fr, w.heap[g]? = some (.cells cs e fr) := by
 rcases h.2 with ⟨rfl, _⟩ | ⟨g', cap, cur, rfl, _, hgg, _⟩
 ·cases hg
 ·injection hg with hg; subst hg; exact ⟨_, _, hgg⟩
theorem WSv.own_lt {w0 w : World} {bp np : Nat} {cs : Array Value} {v : Value} {fs : List Fit} (h : WSv w0 bp np cs v fs w) {g : Nat} (hg : v.ownBlock = some g) : g < w.heap.size := by
 obtain ⟨xs, h1, _⟩ := h.row
 obtain ⟨cs, fr, h2⟩ := row_typeF h1 hg
 exact blk_lt h2
theorem app_bd {k nk : Nat} (h : k < nk) (h2 : nk ≤ 5000) : k + 1 ≤ maxLen ∧ (k + 1) * 8 ≤ 140737488355328 := by unfold maxLen; omega
theorem all_any {w u : World} {bp np nk c : Nat} {A : Option Addr} {a0 a1 a2 a3 : Value} {g v : Value} {f : Fit} {fs : List Fit} (hnk : nk ≤ 5000) (h : WSv w bp np #[a0, a1, a2, a3, .slice A nk c] v fs u) (hl : fs.length ≤ nk) (hf : FnV u g f) (hgo : g.oneCell' = true) :
  Calls Try.prog 63 #[g, .int .i64 0, .pointer (some ⟨bp, 0, none⟩), .pointer (some ⟨np, 0, none⟩)] u fun e u' => e = .returned (.tuple #[]) ∧ ∃ v', WSv w bp np #[a0, a1, a2, a3, .slice A nk c] v' (fs ++ List.replicate (nk - fs.length) f) u' := by
 obtain ⟨F, ca, rfl⟩ := hf.shape
 have HS := hid h
 have HF := hid hf
 have HL := hid hl
 have HNK := hid hnk
 clear h hf hl hnk
 go_enter Try.func63, Try.ntmps63
 go_wp2_with fail
 go_loopw [] (fun wr => ∃ (k : Nat) (vr : Value), fs.length ≤ k ∧ k ≤ nk ∧ WSv w bp np #[a0, a1, a2, a3, .slice A nk c] vr (fs ++ List.replicate (k - fs.length) f) wr ∧ FnV wr (.func (.func F) #[] ca) f) (fun wr => nk - lenAt wr bp)
 case atStart => exact ⟨fs.length, v, Nat.le_refl _, HL.out, by rw [Nat.sub_self]; simpa using HS.out, HF.out⟩
 case round =>
  obtain ⟨k, vr, k1, k2, k3, k4⟩ := hrel
  have HK := hid k3; have HFR := hid k4; have HK1 := hid k1; have HK2 := hid k2
  have q0 := blk_cell (o := 0) k3.box rfl
  have q1 := blk_cell (o := 4) k3.node rfl
  have qf := blk_free (o := 0) k3.box
  obtain ⟨A2, c2, hv⟩ := k3.form
  have hlen : (fs ++ List.replicate (k - fs.length) f).length = k := by simp; omega
  rw [hlen] at hv
  subst hv
  have HLN := hid (k3.len.trans hlen)
  have i0 := HNK.out
  have w0 : IntKind.i64.wrap (nk : Int) = (nk : Int) := by rw [IntKind.wrap_i64]; omega
  clear k1 k3 k4 i0
  by_cases hk : k < nk
  ·have i1 : (k : Int) < (nk : Int) := by omega
   have HI := hid hk
   obtain ⟨xs, hx, hc⟩ := HK.out.row
   have HX2 := hid hx
   rw [hlen] at hx
   have HX := hid hx; have HC := hid hc; have HGE := hid HK.out.kp.le; have HLE := hid hlen
   clear hx hc hlen hk k2
   go_wp2_with (at_builtin; go_must (refine app_lit_at wr.heap.size ?r0 elFit ?r1 (.tmp 14) (.tmp 16) ?r2 (base := w.heap.size) HX.out ?r3 #[.func (.func F) #[] ca] 76 1 1 ?r4 ?r5 ?r6 ?r7 ?r8 HGE.out ?r9))
   case r0 => rfl
   case r1 => rfl
   case r2 => rfl
   case r3 => rfl
   case r4 => rfl
   case r5 => rfl
   case r7 => exact (app_bd HI.out HNK.out).1
   case r8 => exact (app_bd HI.out HNK.out).2
   case r9 =>
    intro v6 w6 o6 g6 m6 b6
    have hx2 := HX2.out
    obtain ⟨qf6, qc6⟩ := HK.out.fr hx2 g6
    have o7 := o6
    have hb6 := (HK.out.app hx2 HC.out (fits1 HFR.out) rfl (by rw [HLE.out]; exact o7) g6)
    have HS6 := hid (WSa.set hb6)
    have HF6 := hid (HK.out.fnv HFR.out hx2 g6 hb6.box v6)
    obtain ⟨A6, c6, rfl⟩ := own_form o6
    clear o6 o7 g6 m6 b6 q0 q1 qf HS HX HC HGE hx2 hb6
    go_wp2
    have hrep : fs ++ List.replicate (k - fs.length) f ++ [f] = fs ++ List.replicate (k + 1 - fs.length) f := by
     rw [show k + 1 - fs.length = (k - fs.length) + 1 by have := HK1.out; omega, List.replicate_succ', List.append_assoc]
    refine ⟨⟨k + 1, _, by have := HK1.out; omega, HI.out, by rw [← hrep]; exact HS6.out, HF6.out⟩, ?_⟩
    rw [HS6.out.len, hrep, HLN.out]
    have := HK1.out; have := HI.out
    simp; omega
  ·have i1 : ¬ (k : Int) < (nk : Int) := by omega
   have hkn : k = nk := by omega
   have HKN := hid hkn
   clear hk k2 hkn
   go_wp2
   first | go_end0 | refine bodyPost_ret (results_none rfl _ _ _) rfl ?_
   have h := HK.out
   rw [show k - fs.length = nk - fs.length by rw [HKN.out]] at h
   exact ⟨rfl, _, h⟩
theorem wants_if2 (n : Int) : WantsC 10 n 2 [.expr, .only 5] := by
 intro w s t A c
 have H0 := WSv.start w #[.int .i64 10, .string s, .string t, .int .i64 n, .slice A 2 c]
 go_enter Try.func51, Try.ntmps51
 go_upto_region 28 with fail
 have HS := hid H0
 clear H0
 generalize World.alloc _ _ = W at HS ⊢
 have BB := hid (show w.heap.size + 1 < W.heap.size from blk_lt HS.out.box)
 refine wp_region_phase [4, 5] [(0, 0), (0, 0), (0, 0), (0, 0), (0, 0), (0, 0)] (KpF W.heap.size) [[], [], [], [1, 2], [0, 3], [4]]
  (fun (p : Nat) (x : Nat → Value) (u : World) => match p with | 0 => WSv w (w.heap.size + 1) w.heap.size #[.int .i64 10, .string s, .string t, .int .i64 n, .slice A 2 c] (.slice none 0 0) [] u ∧ W.heap.size ≤ u.heap.size | 1 => ∃ A7 c7, x 4 = .slice A7 (2) c7 ∧ WSa w (w.heap.size + 1) w.heap.size #[.int .i64 10, .string s, .string t, .int .i64 n, .slice A 2 c] (.slice none 0 0) (.slice A7 (2) c7) [.expr, .only 5] u | _ => ∃ A7 c7, WSv w (w.heap.size + 1) w.heap.size #[.int .i64 10, .string s, .string t, .int .i64 n, .slice A 2 c] (.slice A7 (2) c7) [.expr, .only 5] u)
  [fun (y : Value) (u : World) => y = (.slice none 0 0 : Value),
  fun (y : Value) (u : World) => y = (.func (.func 64) #[] #[] : Value),
  fun (y : Value) (u : World) => FnAt W.heap.size 5 y u,
  fun (y : Value) (u : World) => ∃ v1, FnAt W.heap.size 5 v1 u ∧ LitN W.heap.size 76 #[.func (.func 64) #[] #[], v1] 2 y u,
  fun (y : Value) (u : World) => True,
  fun (y : Value) (u : World) => True]
  (by kernel_rfl) (by kernel_rfl) (by kernel_rfl) (by kernel_rfl) (by kernel_rfl) (by kernel_rfl) (fun _ _ hk => KpF.of_kp hk) (⟨HS.out.keep (Kp.refl _).drew, Nat.le_refl _⟩) ?hKb ?hXb ⟨fun _ _ _ _ h => h, fun _ _ _ _ h => h, fun _ _ _ hk h => h.keep hk, fun _ _ _ hk h => by obtain ⟨v1, h1, h2⟩ := h; exact ⟨v1, h1.keep hk, h2.keep hk⟩, fun _ _ _ _ _ => trivial, fun _ _ _ _ _ => trivial, trivial⟩ ⟨?sb0, ?sb1, ?sb2, ?sb3, ?sb4, ?sb5, trivial⟩ ?hEb
 case hKb =>
  intro p x w w' hk h
  rcases p with _ | _ | p
  ·exact ⟨h.1.keep hk, Nat.le_trans h.2 hk.le⟩
  ·exact (by obtain ⟨A7, c7, h1, h2⟩ := h; exact ⟨A7, c7, h1, h2.keep hk⟩)
  ·exact (by obtain ⟨A7, c7, h1⟩ := h; exact ⟨A7, c7, h1.keep hk⟩)
 case hXb =>
  intro p x i v w hi h
  have e0 : upd x i v 4 = x 4 := if_neg (fun hh => hi (by rw [← hh]; decide))
  have e1 : upd x i v 5 = x 5 := if_neg (fun hh => hi (by rw [← hh]; decide))
  rcases p with _ | _ | p
  ·first | exact h | (simp only [e0, e1]; exact h)
  ·first | exact h | (simp only [e0, e1]; exact h)
  ·first | exact h | (simp only [e0, e1]; exact h)
 case sb0 =>
  refine OpStepQ.off 0 0 (by kernel_rfl) (by kernel_rfl) ?_
  intro x u p hp hg hd K hK
  obtain rfl : p = 0 := by omega
  change WSv w (w.heap.size + 1) w.heap.size #[.int .i64 10, .string s, .string t, .int .i64 n, .slice A 2 c] (.slice none 0 0) [] u ∧ W.heap.size ≤ u.heap.size at hg
  clear hd
  have q := blk_cell (o := 0) hg.1.box rfl
  clear hg
  refine ⟨?_⟩
  simp only [putsFrom, Act.put, List.setIfInBounds_toArray, List.set_cons_zero, List.set_cons_succ, Nat.reduceAdd] at hK ⊢
  go_simp
  exact hK.out _ _ (Kp.refl _) rfl
 case sb1 =>
  refine OpStepQ.off 0 0 (by kernel_rfl) (by kernel_rfl) ?_
  intro x u p hp hg hd K hK
  obtain rfl : p = 0 := by omega
  change WSv w (w.heap.size + 1) w.heap.size #[.int .i64 10, .string s, .string t, .int .i64 n, .slice A 2 c] (.slice none 0 0) [] u ∧ W.heap.size ≤ u.heap.size at hg
  clear hd
  refine ⟨?_⟩
  simp only [putsFrom, Act.put, List.setIfInBounds_toArray, List.set_cons_zero, List.set_cons_succ, Nat.reduceAdd] at hK ⊢
  go_simp
  exact hK.out _ _ (Kp.refl _) rfl
 case sb2 =>
  refine OpStepQ.off 0 0 (by kernel_rfl) (by kernel_rfl) ?_
  intro x u p hp hg hd K hK
  obtain rfl : p = 0 := by omega
  change WSv w (w.heap.size + 1) w.heap.size #[.int .i64 10, .string s, .string t, .int .i64 n, .slice A 2 c] (.slice none 0 0) [] u ∧ W.heap.size ≤ u.heap.size at hg
  clear hd
  refine ⟨?_⟩
  simp only [putsFrom, Act.put, List.setIfInBounds_toArray, List.set_cons_zero, List.set_cons_succ, Nat.reduceAdd] at hK ⊢
  go_simp
  go_at_call 66
  have hc := only_at 5 u W.heap.size hg.2
  refine hc.mono ?_
  clear hc
  rintro e u' ⟨⟨f1, rfl, hf⟩, hk9⟩
  dsimp only
  exact hK.out _ _ hk9 hf
 case sb3 =>
  refine OpStepQ.off 0 0 (by kernel_rfl) (by kernel_rfl) ?_
  intro x u p hp hg hd K hK
  obtain rfl : p = 0 := by omega
  change WSv w (w.heap.size + 1) w.heap.size #[.int .i64 10, .string s, .string t, .int .i64 n, .slice A 2 c] (.slice none 0 0) [] u ∧ W.heap.size ≤ u.heap.size at hg
  have d1 : (x 1) = .func (.func 64) #[] #[] := hd.1
  have d2 : FnAt W.heap.size 5 (x 2) u := hd.2.1
  clear hd
  obtain ⟨p1, hb1, e1, hh1⟩ := d2
  refine ⟨?_⟩
  simp only [putsFrom, Act.put, List.setIfInBounds_toArray, List.set_cons_zero, List.set_cons_succ, Nat.reduceAdd, d1, e1] at hK ⊢
  go_simp
  exact hK.out _ _ ((Kp.refl _).alloc _) ⟨_, ⟨p1, hb1, rfl, KpF.of_kp ((Kp.refl _).alloc _) _ _ hb1 hh1⟩, _, rfl, hg.2, blk_new _ _⟩
 case sb4 =>
  refine OpStepQ.on 0 (by kernel_rfl) (by kernel_rfl) ?_
  intro x u hg hd K hK
  change WSv w (w.heap.size + 1) w.heap.size #[.int .i64 10, .string s, .string t, .int .i64 n, .slice A 2 c] (.slice none 0 0) [] u ∧ W.heap.size ≤ u.heap.size at hg
  have d0 : (x 0) = .slice none 0 0 := hd.1
  have d3 : ∃ v1, FnAt W.heap.size 5 v1 u ∧ LitN W.heap.size 76 #[.func (.func 64) #[] #[], v1] 2 (x 3) u := hd.2.1
  clear hd
  obtain ⟨v1, f1, b, e6, hb6, hlit⟩ := d3
  obtain ⟨xs, l1, l2⟩ := hg.1.row
  refine ⟨?_⟩
  simp only [putsFrom, Act.put, List.setIfInBounds_toArray, List.set_cons_zero, List.set_cons_succ, Nat.reduceAdd, d0, e6] at hK ⊢
  rw [if_pos (by simp [Region.wanted])]
  refine wp_appP elFit (.tmp 63) (.tmp 66) (by rfl) l1 (by rfl) [.func (.func 64) #[] #[], v1] _ 2 2 (by rfl) rfl (fun _ => ⟨_, rfl, lit_src hlit⟩) (by intro u hu; simp at hu; rcases hu with rfl | rfl; rfl; obtain ⟨p, _, rfl, _⟩ := f1; rfl) (by decide) (by decide) hg.1.kp.le ?_
  intro v' w' G1 G2 G3 G4
  have HP := hg.1.app l1 l2 (fits2  (f := .expr) (g := .only 5) rfl f1.fn) rfl G1 G2
  obtain ⟨A', c', rfl⟩ := own_form G1
  exact hK.out _ w' (KpF.of_grown G2 (fun g hg => by cases hg)) ⟨A', c', rfl, HP⟩ trivial
 case sb5 =>
  refine OpStepQ.on 1 (by kernel_rfl) (by kernel_rfl) ?_
  intro x u hg hd K hK
  change ∃ A7 c7, x 4 = .slice A7 (2) c7 ∧ WSa w (w.heap.size + 1) w.heap.size #[.int .i64 10, .string s, .string t, .int .i64 n, .slice A 2 c] (.slice none 0 0) (.slice A7 (2) c7) [.expr, .only 5] u at hg
  clear hd
  obtain ⟨A7, c7, e7, hg2⟩ := hg
  have q := blk_cell (o := 0) hg2.box rfl
  have qf := blk_free (o := 0) hg2.box
  have HG1 := hid hg2
  clear hg2
  refine ⟨?_⟩
  simp only [putsFrom, Act.put, List.setIfInBounds_toArray, List.set_cons_zero, List.set_cons_succ, Nat.reduceAdd, e7] at hK ⊢
  go_simp
  exact hK.out undef _ (KpF.setCell BB.out _) ⟨A7, c7, HG1.out.set⟩ trivial
 intro x u hg he
 have d0 : (x 0) = .slice none 0 0 := he.1
 have d1 : (x 1) = .func (.func 64) #[] #[] := he.2.1
 have d2 : FnAt W.heap.size 5 (x 2) u := he.2.2.1
 have d3 : ∃ v1, FnAt W.heap.size 5 v1 u ∧ LitN W.heap.size 76 #[.func (.func 64) #[] #[], v1] 2 (x 3) u := he.2.2.2.1
 clear he
 change ∃ A7 c7, WSv w (w.heap.size + 1) w.heap.size #[.int .i64 10, .string s, .string t, .int .i64 n, .slice A 2 c] (.slice A7 (2) c7) [.expr, .only 5] u at hg
 refine ⟨?_⟩
 simp only [putsFrom, Act.put, List.setIfInBounds_toArray, List.set_cons_zero, List.set_cons_succ, Nat.reduceAdd, d0, d1]
 clear d0 d1
 obtain ⟨A7, c7, h7⟩ := hg
 have HS6 := hid h7
 have q1 := blk_cell (o := 4) HS6.out.node rfl
 clear h7
 go_upto_region 56 with fail
 refine want56 (nk := 2) (A := A) (c := c) (Av := A7) (cv := c7) (blk_lt HS6.out.box) (blk_lt HS6.out.node) (blk_cell (o := 0) HS6.out.box rfl) (blk_cell (o := 4) HS6.out.node rfl) (fun u2 hg2 => ?_)
 go_wp2
 go_ret2
 exact ⟨⟨_, rfl, (HS6.out.row.kp CeFit.kp hg2)⟩, HS6.out.kp.trans hg2⟩
theorem wants_if3 (n : Int) : WantsC 10 n 3 [.expr, .only 5, .blif] := by
 intro w s t A c
 have H0 := WSv.start w #[.int .i64 10, .string s, .string t, .int .i64 n, .slice A 3 c]
 go_enter Try.func51, Try.ntmps51
 go_upto_region 28 with fail
 have HS := hid H0
 clear H0
 generalize World.alloc _ _ = W at HS ⊢
 have BB := hid (show w.heap.size + 1 < W.heap.size from blk_lt HS.out.box)
 refine wp_region_phase [4, 5] [(0, 0), (0, 0), (0, 0), (0, 0), (0, 0), (0, 0)] (KpF W.heap.size) [[], [], [], [1, 2], [0, 3], [4]]
  (fun (p : Nat) (x : Nat → Value) (u : World) => match p with | 0 => WSv w (w.heap.size + 1) w.heap.size #[.int .i64 10, .string s, .string t, .int .i64 n, .slice A 3 c] (.slice none 0 0) [] u ∧ W.heap.size ≤ u.heap.size | 1 => ∃ A7 c7, x 4 = .slice A7 (2) c7 ∧ WSa w (w.heap.size + 1) w.heap.size #[.int .i64 10, .string s, .string t, .int .i64 n, .slice A 3 c] (.slice none 0 0) (.slice A7 (2) c7) [.expr, .only 5] u | _ => ∃ A7 c7, WSv w (w.heap.size + 1) w.heap.size #[.int .i64 10, .string s, .string t, .int .i64 n, .slice A 3 c] (.slice A7 (2) c7) [.expr, .only 5] u)
  [fun (y : Value) (u : World) => y = (.slice none 0 0 : Value),
  fun (y : Value) (u : World) => y = (.func (.func 64) #[] #[] : Value),
  fun (y : Value) (u : World) => FnAt W.heap.size 5 y u,
  fun (y : Value) (u : World) => ∃ v1, FnAt W.heap.size 5 v1 u ∧ LitN W.heap.size 76 #[.func (.func 64) #[] #[], v1] 2 y u,
  fun (y : Value) (u : World) => True,
  fun (y : Value) (u : World) => True]
  (by kernel_rfl) (by kernel_rfl) (by kernel_rfl) (by kernel_rfl) (by kernel_rfl) (by kernel_rfl) (fun _ _ hk => KpF.of_kp hk) (⟨HS.out.keep (Kp.refl _).drew, Nat.le_refl _⟩) ?hKc ?hXc ⟨fun _ _ _ _ h => h, fun _ _ _ _ h => h, fun _ _ _ hk h => h.keep hk, fun _ _ _ hk h => by obtain ⟨v1, h1, h2⟩ := h; exact ⟨v1, h1.keep hk, h2.keep hk⟩, fun _ _ _ _ _ => trivial, fun _ _ _ _ _ => trivial, trivial⟩ ⟨?sc0, ?sc1, ?sc2, ?sc3, ?sc4, ?sc5, trivial⟩ ?hEc
 case hKc =>
  intro p x w w' hk h
  rcases p with _ | _ | p
  ·exact ⟨h.1.keep hk, Nat.le_trans h.2 hk.le⟩
  ·exact (by obtain ⟨A7, c7, h1, h2⟩ := h; exact ⟨A7, c7, h1, h2.keep hk⟩)
  ·exact (by obtain ⟨A7, c7, h1⟩ := h; exact ⟨A7, c7, h1.keep hk⟩)
 case hXc =>
  intro p x i v w hi h
  have e0 : upd x i v 4 = x 4 := if_neg (fun hh => hi (by rw [← hh]; decide))
  have e1 : upd x i v 5 = x 5 := if_neg (fun hh => hi (by rw [← hh]; decide))
  rcases p with _ | _ | p
  ·first | exact h | (simp only [e0, e1]; exact h)
  ·first | exact h | (simp only [e0, e1]; exact h)
  ·first | exact h | (simp only [e0, e1]; exact h)
 case sc0 =>
  refine OpStepQ.off 0 0 (by kernel_rfl) (by kernel_rfl) ?_
  intro x u p hp hg hd K hK
  obtain rfl : p = 0 := by omega
  change WSv w (w.heap.size + 1) w.heap.size #[.int .i64 10, .string s, .string t, .int .i64 n, .slice A 3 c] (.slice none 0 0) [] u ∧ W.heap.size ≤ u.heap.size at hg
  clear hd
  have q := blk_cell (o := 0) hg.1.box rfl
  clear hg
  refine ⟨?_⟩
  simp only [putsFrom, Act.put, List.setIfInBounds_toArray, List.set_cons_zero, List.set_cons_succ, Nat.reduceAdd] at hK ⊢
  go_simp
  exact hK.out _ _ (Kp.refl _) rfl
 case sc1 =>
  refine OpStepQ.off 0 0 (by kernel_rfl) (by kernel_rfl) ?_
  intro x u p hp hg hd K hK
  obtain rfl : p = 0 := by omega
  change WSv w (w.heap.size + 1) w.heap.size #[.int .i64 10, .string s, .string t, .int .i64 n, .slice A 3 c] (.slice none 0 0) [] u ∧ W.heap.size ≤ u.heap.size at hg
  clear hd
  refine ⟨?_⟩
  simp only [putsFrom, Act.put, List.setIfInBounds_toArray, List.set_cons_zero, List.set_cons_succ, Nat.reduceAdd] at hK ⊢
  go_simp
  exact hK.out _ _ (Kp.refl _) rfl
 case sc2 =>
  refine OpStepQ.off 0 0 (by kernel_rfl) (by kernel_rfl) ?_
  intro x u p hp hg hd K hK
  obtain rfl : p = 0 := by omega
  change WSv w (w.heap.size + 1) w.heap.size #[.int .i64 10, .string s, .string t, .int .i64 n, .slice A 3 c] (.slice none 0 0) [] u ∧ W.heap.size ≤ u.heap.size at hg
  clear hd
  refine ⟨?_⟩
  simp only [putsFrom, Act.put, List.setIfInBounds_toArray, List.set_cons_zero, List.set_cons_succ, Nat.reduceAdd] at hK ⊢
  go_simp
  go_at_call 66
  have hc := only_at 5 u W.heap.size hg.2
  refine hc.mono ?_
  clear hc
  rintro e u' ⟨⟨f1, rfl, hf⟩, hk9⟩
  dsimp only
  exact hK.out _ _ hk9 hf
 case sc3 =>
  refine OpStepQ.off 0 0 (by kernel_rfl) (by kernel_rfl) ?_
  intro x u p hp hg hd K hK
  obtain rfl : p = 0 := by omega
  change WSv w (w.heap.size + 1) w.heap.size #[.int .i64 10, .string s, .string t, .int .i64 n, .slice A 3 c] (.slice none 0 0) [] u ∧ W.heap.size ≤ u.heap.size at hg
  have d1 : (x 1) = .func (.func 64) #[] #[] := hd.1
  have d2 : FnAt W.heap.size 5 (x 2) u := hd.2.1
  clear hd
  obtain ⟨p1, hb1, e1, hh1⟩ := d2
  refine ⟨?_⟩
  simp only [putsFrom, Act.put, List.setIfInBounds_toArray, List.set_cons_zero, List.set_cons_succ, Nat.reduceAdd, d1, e1] at hK ⊢
  go_simp
  exact hK.out _ _ ((Kp.refl _).alloc _) ⟨_, ⟨p1, hb1, rfl, KpF.of_kp ((Kp.refl _).alloc _) _ _ hb1 hh1⟩, _, rfl, hg.2, blk_new _ _⟩
 case sc4 =>
  refine OpStepQ.on 0 (by kernel_rfl) (by kernel_rfl) ?_
  intro x u hg hd K hK
  change WSv w (w.heap.size + 1) w.heap.size #[.int .i64 10, .string s, .string t, .int .i64 n, .slice A 3 c] (.slice none 0 0) [] u ∧ W.heap.size ≤ u.heap.size at hg
  have d0 : (x 0) = .slice none 0 0 := hd.1
  have d3 : ∃ v1, FnAt W.heap.size 5 v1 u ∧ LitN W.heap.size 76 #[.func (.func 64) #[] #[], v1] 2 (x 3) u := hd.2.1
  clear hd
  obtain ⟨v1, f1, b, e6, hb6, hlit⟩ := d3
  obtain ⟨xs, l1, l2⟩ := hg.1.row
  refine ⟨?_⟩
  simp only [putsFrom, Act.put, List.setIfInBounds_toArray, List.set_cons_zero, List.set_cons_succ, Nat.reduceAdd, d0, e6] at hK ⊢
  rw [if_pos (by simp [Region.wanted])]
  refine wp_appP elFit (.tmp 63) (.tmp 66) (by rfl) l1 (by rfl) [.func (.func 64) #[] #[], v1] _ 2 2 (by rfl) rfl (fun _ => ⟨_, rfl, lit_src hlit⟩) (by intro u hu; simp at hu; rcases hu with rfl | rfl; rfl; obtain ⟨p, _, rfl, _⟩ := f1; rfl) (by decide) (by decide) hg.1.kp.le ?_
  intro v' w' G1 G2 G3 G4
  have HP := hg.1.app l1 l2 (fits2  (f := .expr) (g := .only 5) rfl f1.fn) rfl G1 G2
  obtain ⟨A', c', rfl⟩ := own_form G1
  exact hK.out _ w' (KpF.of_grown G2 (fun g hg => by cases hg)) ⟨A', c', rfl, HP⟩ trivial
 case sc5 =>
  refine OpStepQ.on 1 (by kernel_rfl) (by kernel_rfl) ?_
  intro x u hg hd K hK
  change ∃ A7 c7, x 4 = .slice A7 (2) c7 ∧ WSa w (w.heap.size + 1) w.heap.size #[.int .i64 10, .string s, .string t, .int .i64 n, .slice A 3 c] (.slice none 0 0) (.slice A7 (2) c7) [.expr, .only 5] u at hg
  clear hd
  obtain ⟨A7, c7, e7, hg2⟩ := hg
  have q := blk_cell (o := 0) hg2.box rfl
  have qf := blk_free (o := 0) hg2.box
  have HG1 := hid hg2
  clear hg2
  refine ⟨?_⟩
  simp only [putsFrom, Act.put, List.setIfInBounds_toArray, List.set_cons_zero, List.set_cons_succ, Nat.reduceAdd, e7] at hK ⊢
  go_simp
  exact hK.out undef _ (KpF.setCell BB.out _) ⟨A7, c7, HG1.out.set⟩ trivial
 intro x u hg he
 have d0 : (x 0) = .slice none 0 0 := he.1
 have d1 : (x 1) = .func (.func 64) #[] #[] := he.2.1
 have d2 : FnAt W.heap.size 5 (x 2) u := he.2.2.1
 have d3 : ∃ v1, FnAt W.heap.size 5 v1 u ∧ LitN W.heap.size 76 #[.func (.func 64) #[] #[], v1] 2 (x 3) u := he.2.2.2.1
 clear he
 change ∃ A7 c7, WSv w (w.heap.size + 1) w.heap.size #[.int .i64 10, .string s, .string t, .int .i64 n, .slice A 3 c] (.slice A7 (2) c7) [.expr, .only 5] u at hg
 refine ⟨?_⟩
 simp only [putsFrom, Act.put, List.setIfInBounds_toArray, List.set_cons_zero, List.set_cons_succ, Nat.reduceAdd, d0, d1]
 clear d0 d1
 obtain ⟨A7, c7, h7⟩ := hg
 have HS6 := hid h7
 have q1 := blk_cell (o := 4) HS6.out.node rfl
 clear h7
 go_upto_region 30 with fail
 clear HS BB q1
 have HS := hid HS6.out
 clear HS6
 generalize u = W at HS ⊢
 have q0 := blk_cell (o := 0) HS.out.box rfl
 have q1 := blk_cell (o := 4) HS.out.node rfl
 have qf := blk_free (o := 0) HS.out.box
 obtain ⟨xs, hx, hc⟩ := HS.out.row
 have HX := hid hx; have HC := hid hc; have HGE := hid HS.out.kp.le
 clear hx hc
 go_wp2_with (at_builtin; go_must (refine app_lit_at W.heap.size ?r0 elFit ?r1 (.tmp 72) (.tmp 73) ?r2 (base := w.heap.size) HX.out ?r3 #[.func (.func 68) #[] #[]] 76 1 1 ?r4 ?r5 ?r6 ?r7 ?r8 HGE.out ?r9))
 case r0 => rfl
 case r1 => rfl
 case r2 => rfl
 case r3 => rfl
 case r4 => rfl
 case r5 => rfl
 case r6 => first | rfl | exact ⟨rfl, rfl⟩ | (intro u hu; simp at hu; first | (subst hu; rfl) | (rcases hu with rfl | rfl <;> rfl) | (rcases hu with rfl | rfl | rfl <;> rfl))
 case r7 => decide
 case r8 => decide
 case r9 =>
  intro v6 w6 o6 g6 m6 b6
  obtain ⟨qf6, qc6⟩ := HS.out.fr HX.out g6
  have HS6 := hid (WSa.set (HS.out.app HX.out HC.out (fits1 (f := .blif) rfl) rfl o6 g6))
  obtain ⟨A6, c6, rfl⟩ := own_form o6
  clear o6 g6 m6 b6 q0 q1 qf HS HX HC HGE
  go_upto_region 56 with fail
  generalize World.setCell _ _ _ = W2 at HS6 ⊢
  refine want56 (nk := 3) (A := A) (c := c) (Av := A6) (cv := c6) (blk_lt HS6.out.box) (blk_lt HS6.out.node) (blk_cell (o := 0) HS6.out.box rfl) (blk_cell (o := 4) HS6.out.node rfl) (fun u2 hg2 => ?_)
  go_wp2
  go_ret2
  exact ⟨⟨_, rfl, (HS6.out.row.kp CeFit.kp hg2)⟩, HS6.out.kp.trans hg2⟩
theorem wants_for1 (n : Int) : WantsC 11 n 1 [.only 5] := by
 intro w s t A c
 have H0 := WSv.start w #[.int .i64 11, .string s, .string t, .int .i64 n, .slice A 1 c]
 go_enter Try.func51, Try.ntmps51
 have q1 := blk_cell (o := 4) H0.node rfl
 go_upto_region 34 with fail
 clear q1
 have HS := hid H0
 clear H0
 generalize World.alloc _ _ = W at HS ⊢
 have BB := hid (show w.heap.size + 1 < W.heap.size from blk_lt HS.out.box)
 refine wp_region_phase [3, 4] [(0, 0), (0, 0), (0, 0), (0, 0), (0, 0)] (KpF W.heap.size) [[], [], [1], [0, 2], [3]]
  (fun (p : Nat) (x : Nat → Value) (u : World) => match p with | 0 => WSv w (w.heap.size + 1) w.heap.size #[.int .i64 11, .string s, .string t, .int .i64 n, .slice A 1 c] (.slice none 0 0) [] u ∧ W.heap.size ≤ u.heap.size | 1 => ∃ A7 c7, x 3 = .slice A7 (1) c7 ∧ WSa w (w.heap.size + 1) w.heap.size #[.int .i64 11, .string s, .string t, .int .i64 n, .slice A 1 c] (.slice none 0 0) (.slice A7 (1) c7) [.only 5] u | _ => ∃ A7 c7, WSv w (w.heap.size + 1) w.heap.size #[.int .i64 11, .string s, .string t, .int .i64 n, .slice A 1 c] (.slice A7 (1) c7) [.only 5] u)
  [fun (y : Value) (u : World) => y = (.slice none 0 0 : Value),
  fun (y : Value) (u : World) => FnAt W.heap.size 5 y u,
  fun (y : Value) (u : World) => ∃ v1, FnAt W.heap.size 5 v1 u ∧ LitN W.heap.size 76 #[v1] 1 y u,
  fun (y : Value) (u : World) => True,
  fun (y : Value) (u : World) => True]
  (by kernel_rfl) (by kernel_rfl) (by kernel_rfl) (by kernel_rfl) (by kernel_rfl) (by kernel_rfl) (fun _ _ hk => KpF.of_kp hk) (⟨HS.out.keep (Kp.refl _).drew, Nat.le_refl _⟩) ?hKd ?hXd ⟨fun _ _ _ _ h => h, fun _ _ _ hk h => h.keep hk, fun _ _ _ hk h => by obtain ⟨v1, h1, h2⟩ := h; exact ⟨v1, h1.keep hk, h2.keep hk⟩, fun _ _ _ _ _ => trivial, fun _ _ _ _ _ => trivial, trivial⟩ ⟨?sd0, ?sd1, ?sd2, ?sd3, ?sd4, trivial⟩ ?hEd
 case hKd =>
  intro p x w w' hk h
  rcases p with _ | _ | p
  ·exact ⟨h.1.keep hk, Nat.le_trans h.2 hk.le⟩
  ·exact (by obtain ⟨A7, c7, h1, h2⟩ := h; exact ⟨A7, c7, h1, h2.keep hk⟩)
  ·exact (by obtain ⟨A7, c7, h1⟩ := h; exact ⟨A7, c7, h1.keep hk⟩)
 case hXd =>
  intro p x i v w hi h
  have e0 : upd x i v 3 = x 3 := if_neg (fun hh => hi (by rw [← hh]; decide))
  have e1 : upd x i v 4 = x 4 := if_neg (fun hh => hi (by rw [← hh]; decide))
  rcases p with _ | _ | p
  ·first | exact h | (simp only [e0, e1]; exact h)
  ·first | exact h | (simp only [e0, e1]; exact h)
  ·first | exact h | (simp only [e0, e1]; exact h)
 case sd0 =>
  refine OpStepQ.off 0 0 (by kernel_rfl) (by kernel_rfl) ?_
  intro x u p hp hg hd K hK
  obtain rfl : p = 0 := by omega
  change WSv w (w.heap.size + 1) w.heap.size #[.int .i64 11, .string s, .string t, .int .i64 n, .slice A 1 c] (.slice none 0 0) [] u ∧ W.heap.size ≤ u.heap.size at hg
  clear hd
  have q := blk_cell (o := 0) hg.1.box rfl
  clear hg
  refine ⟨?_⟩
  simp only [putsFrom, Act.put, List.setIfInBounds_toArray, List.set_cons_zero, List.set_cons_succ, Nat.reduceAdd] at hK ⊢
  go_simp
  exact hK.out _ _ (Kp.refl _) rfl
 case sd1 =>
  refine OpStepQ.off 0 0 (by kernel_rfl) (by kernel_rfl) ?_
  intro x u p hp hg hd K hK
  obtain rfl : p = 0 := by omega
  change WSv w (w.heap.size + 1) w.heap.size #[.int .i64 11, .string s, .string t, .int .i64 n, .slice A 1 c] (.slice none 0 0) [] u ∧ W.heap.size ≤ u.heap.size at hg
  clear hd
  refine ⟨?_⟩
  simp only [putsFrom, Act.put, List.setIfInBounds_toArray, List.set_cons_zero, List.set_cons_succ, Nat.reduceAdd] at hK ⊢
  go_simp
  go_at_call 66
  have hc := only_at 5 u W.heap.size hg.2
  refine hc.mono ?_
  clear hc
  rintro e u' ⟨⟨f1, rfl, hf⟩, hk9⟩
  dsimp only
  exact hK.out _ _ hk9 hf
 case sd2 =>
  refine OpStepQ.off 0 0 (by kernel_rfl) (by kernel_rfl) ?_
  intro x u p hp hg hd K hK
  obtain rfl : p = 0 := by omega
  change WSv w (w.heap.size + 1) w.heap.size #[.int .i64 11, .string s, .string t, .int .i64 n, .slice A 1 c] (.slice none 0 0) [] u ∧ W.heap.size ≤ u.heap.size at hg
  have d1 : FnAt W.heap.size 5 (x 1) u := hd.1
  clear hd
  obtain ⟨p1, hb1, e1, hh1⟩ := d1
  refine ⟨?_⟩
  simp only [putsFrom, Act.put, List.setIfInBounds_toArray, List.set_cons_zero, List.set_cons_succ, Nat.reduceAdd, e1] at hK ⊢
  go_simp
  exact hK.out _ _ ((Kp.refl _).alloc _) ⟨_, ⟨p1, hb1, rfl, KpF.of_kp ((Kp.refl _).alloc _) _ _ hb1 hh1⟩, _, rfl, hg.2, blk_new _ _⟩
 case sd3 =>
  refine OpStepQ.on 0 (by kernel_rfl) (by kernel_rfl) ?_
  intro x u hg hd K hK
  change WSv w (w.heap.size + 1) w.heap.size #[.int .i64 11, .string s, .string t, .int .i64 n, .slice A 1 c] (.slice none 0 0) [] u ∧ W.heap.size ≤ u.heap.size at hg
  have d0 : (x 0) = .slice none 0 0 := hd.1
  have d2 : ∃ v1, FnAt W.heap.size 5 v1 u ∧ LitN W.heap.size 76 #[v1] 1 (x 2) u := hd.2.1
  clear hd
  obtain ⟨v1, f1, b, e6, hb6, hlit⟩ := d2
  obtain ⟨xs, l1, l2⟩ := hg.1.row
  refine ⟨?_⟩
  simp only [putsFrom, Act.put, List.setIfInBounds_toArray, List.set_cons_zero, List.set_cons_succ, Nat.reduceAdd, d0, e6] at hK ⊢
  rw [if_pos (by simp [Region.wanted])]
  refine wp_appP elFit (.tmp 85) (.tmp 87) (by rfl) l1 (by rfl) [v1] _ 1 1 (by rfl) rfl (fun _ => ⟨_, rfl, lit_src hlit⟩) (by intro u hu; simp at hu; subst hu; obtain ⟨p, _, rfl, _⟩ := f1; rfl) (by decide) (by decide) hg.1.kp.le ?_
  intro v' w' G1 G2 G3 G4
  have HP := hg.1.app l1 l2 (fits1 f1.fn) rfl G1 G2
  obtain ⟨A', c', rfl⟩ := own_form G1
  exact hK.out _ w' (KpF.of_grown G2 (fun g hg => by cases hg)) ⟨A', c', rfl, HP⟩ trivial
 case sd4 =>
  refine OpStepQ.on 1 (by kernel_rfl) (by kernel_rfl) ?_
  intro x u hg hd K hK
  change ∃ A7 c7, x 3 = .slice A7 (1) c7 ∧ WSa w (w.heap.size + 1) w.heap.size #[.int .i64 11, .string s, .string t, .int .i64 n, .slice A 1 c] (.slice none 0 0) (.slice A7 (1) c7) [.only 5] u at hg
  clear hd
  obtain ⟨A7, c7, e7, hg2⟩ := hg
  have q := blk_cell (o := 0) hg2.box rfl
  have qf := blk_free (o := 0) hg2.box
  have HG1 := hid hg2
  clear hg2
  refine ⟨?_⟩
  simp only [putsFrom, Act.put, List.setIfInBounds_toArray, List.set_cons_zero, List.set_cons_succ, Nat.reduceAdd, e7] at hK ⊢
  go_simp
  exact hK.out undef _ (KpF.setCell BB.out _) ⟨A7, c7, HG1.out.set⟩ trivial
 intro x u hg he
 have d0 : (x 0) = .slice none 0 0 := he.1
 have d1 : FnAt W.heap.size 5 (x 1) u := he.2.1
 have d2 : ∃ v1, FnAt W.heap.size 5 v1 u ∧ LitN W.heap.size 76 #[v1] 1 (x 2) u := he.2.2.1
 clear he
 change ∃ A7 c7, WSv w (w.heap.size + 1) w.heap.size #[.int .i64 11, .string s, .string t, .int .i64 n, .slice A 1 c] (.slice A7 (1) c7) [.only 5] u at hg
 refine ⟨?_⟩
 simp only [putsFrom, Act.put, List.setIfInBounds_toArray, List.set_cons_zero, List.set_cons_succ, Nat.reduceAdd, d0]
 clear d0
 obtain ⟨A7, c7, h7⟩ := hg
 have HS6 := hid h7
 clear h7
 go_upto_region 56 with fail
 refine want56 (nk := 1) (A := A) (c := c) (Av := A7) (cv := c7) (blk_lt HS6.out.box) (blk_lt HS6.out.node) (blk_cell (o := 0) HS6.out.box rfl) (blk_cell (o := 4) HS6.out.node rfl) (fun u2 hg2 => ?_)
 go_wp2
 go_ret2
 exact ⟨⟨_, rfl, (HS6.out.row.kp CeFit.kp hg2)⟩, HS6.out.kp.trans hg2⟩
theorem wants_for2 (n : Int) : WantsC 11 n 2 [.expr, .only 5] := by
 intro w s t A c
 have H0 := WSv.start w #[.int .i64 11, .string s, .string t, .int .i64 n, .slice A 2 c]
 go_enter Try.func51, Try.ntmps51
 have q1 := blk_cell (o := 4) H0.node rfl
 go_upto_region 33 with fail
 clear q1
 have HS := hid H0
 clear H0
 generalize World.alloc _ _ = W at HS ⊢
 have q0 := blk_cell (o := 0) HS.out.box rfl
 have q1 := blk_cell (o := 4) HS.out.node rfl
 have qf := blk_free (o := 0) HS.out.box
 obtain ⟨xs, hx, hc⟩ := HS.out.row
 have HX := hid hx; have HC := hid hc; have HGE := hid HS.out.kp.le
 clear hx hc
 go_wp2_with (at_builtin; go_must (refine app_lit_at W.heap.size ?r0 elFit ?r1 (.tmp 81) (.tmp 83) ?r2 (base := w.heap.size) HX.out ?r3 #[.func (.func 64) #[] #[]] 76 1 1 ?r4 ?r5 ?r6 ?r7 ?r8 HGE.out ?r9))
 case r0 => rfl
 case r1 => rfl
 case r2 => rfl
 case r3 => rfl
 case r4 => rfl
 case r5 => rfl
 case r6 => first | rfl | exact ⟨rfl, rfl⟩ | (intro u hu; simp at hu; first | (subst hu; rfl) | (rcases hu with rfl | rfl <;> rfl) | (rcases hu with rfl | rfl | rfl <;> rfl))
 case r7 => decide
 case r8 => decide
 case r9 =>
  intro v6 w6 o6 g6 m6 b6
  obtain ⟨qf6, qc6⟩ := HS.out.fr HX.out g6
  have HS6 := hid (WSa.set (HS.out.app HX.out HC.out (fits1 (f := .expr) rfl) rfl o6 g6))
  obtain ⟨A6, c6, rfl⟩ := own_form o6
  clear o6 g6 m6 b6 q0 q1 qf HS HX HC HGE
  go_upto_region 34 with fail
  generalize World.setCell _ _ _ = W at HS6 ⊢
  have HS := hid HS6.out
  clear HS6
  have BB := hid (show w.heap.size + 1 < W.heap.size from blk_lt HS.out.box)
  have HOB := hid (show ∀ g, (Value.slice A6 1 c6).ownBlock = some g → g < W.heap.size from fun g hg => HS.out.own_lt hg)
  refine wp_region_phase [3, 4] [(0, 0), (0, 0), (0, 0), (0, 0), (0, 0)] (KpF W.heap.size) [[], [], [1], [0, 2], [3]]
   (fun (p : Nat) (x : Nat → Value) (u : World) => match p with | 0 => WSv w (w.heap.size + 1) w.heap.size #[.int .i64 11, .string s, .string t, .int .i64 n, .slice A 2 c] (.slice A6 1 c6) [.expr] u ∧ W.heap.size ≤ u.heap.size | 1 => ∃ A7 c7, x 3 = .slice A7 (2) c7 ∧ WSa w (w.heap.size + 1) w.heap.size #[.int .i64 11, .string s, .string t, .int .i64 n, .slice A 2 c] (.slice A6 1 c6) (.slice A7 (2) c7) [.expr, .only 5] u | _ => ∃ A7 c7, WSv w (w.heap.size + 1) w.heap.size #[.int .i64 11, .string s, .string t, .int .i64 n, .slice A 2 c] (.slice A7 (2) c7) [.expr, .only 5] u)
   [fun (y : Value) (u : World) => y = (.slice A6 1 c6 : Value),
   fun (y : Value) (u : World) => FnAt W.heap.size 5 y u,
   fun (y : Value) (u : World) => ∃ v1, FnAt W.heap.size 5 v1 u ∧ LitN W.heap.size 76 #[v1] 1 y u,
   fun (y : Value) (u : World) => True,
   fun (y : Value) (u : World) => True]
   (by kernel_rfl) (by kernel_rfl) (by kernel_rfl) (by kernel_rfl) (by kernel_rfl) (by kernel_rfl) (fun _ _ hk => KpF.of_kp hk) (⟨HS.out.keep (Kp.refl _).drew, Nat.le_refl _⟩) ?hKe ?hXe ⟨fun _ _ _ _ h => h, fun _ _ _ hk h => h.keep hk, fun _ _ _ hk h => by obtain ⟨v1, h1, h2⟩ := h; exact ⟨v1, h1.keep hk, h2.keep hk⟩, fun _ _ _ _ _ => trivial, fun _ _ _ _ _ => trivial, trivial⟩ ⟨?se0, ?se1, ?se2, ?se3, ?se4, trivial⟩ ?hEe
  case hKe =>
   intro p x w w' hk h
   rcases p with _ | _ | p
   ·exact ⟨h.1.keep hk, Nat.le_trans h.2 hk.le⟩
   ·exact (by obtain ⟨A7, c7, h1, h2⟩ := h; exact ⟨A7, c7, h1, h2.keep hk⟩)
   ·exact (by obtain ⟨A7, c7, h1⟩ := h; exact ⟨A7, c7, h1.keep hk⟩)
  case hXe =>
   intro p x i v w hi h
   have e0 : upd x i v 3 = x 3 := if_neg (fun hh => hi (by rw [← hh]; decide))
   have e1 : upd x i v 4 = x 4 := if_neg (fun hh => hi (by rw [← hh]; decide))
   rcases p with _ | _ | p
   ·first | exact h | (simp only [e0, e1]; exact h)
   ·first | exact h | (simp only [e0, e1]; exact h)
   ·first | exact h | (simp only [e0, e1]; exact h)
  case se0 =>
   refine OpStepQ.off 0 0 (by kernel_rfl) (by kernel_rfl) ?_
   intro x u p hp hg hd K hK
   obtain rfl : p = 0 := by omega
   change WSv w (w.heap.size + 1) w.heap.size #[.int .i64 11, .string s, .string t, .int .i64 n, .slice A 2 c] (.slice A6 1 c6) [.expr] u ∧ W.heap.size ≤ u.heap.size at hg
   clear hd
   have q := blk_cell (o := 0) hg.1.box rfl
   clear hg
   refine ⟨?_⟩
   simp only [putsFrom, Act.put, List.setIfInBounds_toArray, List.set_cons_zero, List.set_cons_succ, Nat.reduceAdd] at hK ⊢
   go_simp
   exact hK.out _ _ (Kp.refl _) rfl
  case se1 =>
   refine OpStepQ.off 0 0 (by kernel_rfl) (by kernel_rfl) ?_
   intro x u p hp hg hd K hK
   obtain rfl : p = 0 := by omega
   change WSv w (w.heap.size + 1) w.heap.size #[.int .i64 11, .string s, .string t, .int .i64 n, .slice A 2 c] (.slice A6 1 c6) [.expr] u ∧ W.heap.size ≤ u.heap.size at hg
   clear hd
   refine ⟨?_⟩
   simp only [putsFrom, Act.put, List.setIfInBounds_toArray, List.set_cons_zero, List.set_cons_succ, Nat.reduceAdd] at hK ⊢
   go_simp
   go_at_call 66
   have hc := only_at 5 u W.heap.size hg.2
   refine hc.mono ?_
   clear hc
   rintro e u' ⟨⟨f1, rfl, hf⟩, hk9⟩
   dsimp only
   exact hK.out _ _ hk9 hf
  case se2 =>
   refine OpStepQ.off 0 0 (by kernel_rfl) (by kernel_rfl) ?_
   intro x u p hp hg hd K hK
   obtain rfl : p = 0 := by omega
   change WSv w (w.heap.size + 1) w.heap.size #[.int .i64 11, .string s, .string t, .int .i64 n, .slice A 2 c] (.slice A6 1 c6) [.expr] u ∧ W.heap.size ≤ u.heap.size at hg
   have d1 : FnAt W.heap.size 5 (x 1) u := hd.1
   clear hd
   obtain ⟨p1, hb1, e1, hh1⟩ := d1
   refine ⟨?_⟩
   simp only [putsFrom, Act.put, List.setIfInBounds_toArray, List.set_cons_zero, List.set_cons_succ, Nat.reduceAdd, e1] at hK ⊢
   go_simp
   exact hK.out _ _ ((Kp.refl _).alloc _) ⟨_, ⟨p1, hb1, rfl, KpF.of_kp ((Kp.refl _).alloc _) _ _ hb1 hh1⟩, _, rfl, hg.2, blk_new _ _⟩
  case se3 =>
   refine OpStepQ.on 0 (by kernel_rfl) (by kernel_rfl) ?_
   intro x u hg hd K hK
   change WSv w (w.heap.size + 1) w.heap.size #[.int .i64 11, .string s, .string t, .int .i64 n, .slice A 2 c] (.slice A6 1 c6) [.expr] u ∧ W.heap.size ≤ u.heap.size at hg
   have d0 : (x 0) = .slice A6 1 c6 := hd.1
   have d2 : ∃ v1, FnAt W.heap.size 5 v1 u ∧ LitN W.heap.size 76 #[v1] 1 (x 2) u := hd.2.1
   clear hd
   obtain ⟨v1, f1, b, e6, hb6, hlit⟩ := d2
   obtain ⟨xs, l1, l2⟩ := hg.1.row
   refine ⟨?_⟩
   simp only [putsFrom, Act.put, List.setIfInBounds_toArray, List.set_cons_zero, List.set_cons_succ, Nat.reduceAdd, d0, e6] at hK ⊢
   rw [if_pos (by simp [Region.wanted])]
   refine wp_appP elFit (.tmp 85) (.tmp 87) (by rfl) l1 (by rfl) [v1] _ 1 1 (by rfl) rfl (fun _ => ⟨_, rfl, lit_src hlit⟩) (by intro u hu; simp at hu; subst hu; obtain ⟨p, _, rfl, _⟩ := f1; rfl) (by decide) (by decide) hg.1.kp.le ?_
   intro v' w' G1 G2 G3 G4
   have HP := hg.1.app l1 l2 (fits1 f1.fn) rfl G1 G2
   obtain ⟨A', c', rfl⟩ := own_form G1
   exact hK.out _ w' (KpF.of_grown G2 (fun g hg5 => HOB.out g hg5)) ⟨A', c', rfl, HP⟩ trivial
  case se4 =>
   refine OpStepQ.on 1 (by kernel_rfl) (by kernel_rfl) ?_
   intro x u hg hd K hK
   change ∃ A7 c7, x 3 = .slice A7 (2) c7 ∧ WSa w (w.heap.size + 1) w.heap.size #[.int .i64 11, .string s, .string t, .int .i64 n, .slice A 2 c] (.slice A6 1 c6) (.slice A7 (2) c7) [.expr, .only 5] u at hg
   clear hd
   obtain ⟨A7, c7, e7, hg2⟩ := hg
   have q := blk_cell (o := 0) hg2.box rfl
   have qf := blk_free (o := 0) hg2.box
   have HG1 := hid hg2
   clear hg2
   refine ⟨?_⟩
   simp only [putsFrom, Act.put, List.setIfInBounds_toArray, List.set_cons_zero, List.set_cons_succ, Nat.reduceAdd, e7] at hK ⊢
   go_simp
   exact hK.out undef _ (KpF.setCell BB.out _) ⟨A7, c7, HG1.out.set⟩ trivial
  intro x u hg he
  have d0 : (x 0) = .slice A6 1 c6 := he.1
  have d1 : FnAt W.heap.size 5 (x 1) u := he.2.1
  have d2 : ∃ v1, FnAt W.heap.size 5 v1 u ∧ LitN W.heap.size 76 #[v1] 1 (x 2) u := he.2.2.1
  clear he
  change ∃ A7 c7, WSv w (w.heap.size + 1) w.heap.size #[.int .i64 11, .string s, .string t, .int .i64 n, .slice A 2 c] (.slice A7 (2) c7) [.expr, .only 5] u at hg
  refine ⟨?_⟩
  simp only [putsFrom, Act.put, List.setIfInBounds_toArray, List.set_cons_zero, List.set_cons_succ, Nat.reduceAdd, d0]
  clear d0
  obtain ⟨A7, c7, h7⟩ := hg
  have HS6 := hid h7
  clear h7
  go_upto_region 56 with fail
  refine want56 (nk := 2) (A := A) (c := c) (Av := A7) (cv := c7) (blk_lt HS6.out.box) (blk_lt HS6.out.node) (blk_cell (o := 0) HS6.out.box rfl) (blk_cell (o := 4) HS6.out.node rfl) (fun u2 hg2 => ?_)
  go_wp2
  go_ret2
  exact ⟨⟨_, rfl, (HS6.out.row.kp CeFit.kp hg2)⟩, HS6.out.kp.trans hg2⟩
theorem wants_ret1 (n : Int) : WantsC 14 n 1 [.expr] := by
 intro w s t A c
 have H0 := WSv.start w #[.int .i64 14, .string s, .string t, .int .i64 n, .slice A 1 c]
 go_enter Try.func51, Try.ntmps51
 have q1 := blk_cell (o := 4) H0.node rfl
 go_upto_region 37 with fail
 clear q1
 have HS := hid H0
 clear H0
 generalize World.alloc _ _ = W at HS ⊢
 have q0 := blk_cell (o := 0) HS.out.box rfl
 have q1 := blk_cell (o := 4) HS.out.node rfl
 have qf := blk_free (o := 0) HS.out.box
 obtain ⟨xs, hx, hc⟩ := HS.out.row
 have HX := hid hx; have HC := hid hc; have HGE := hid HS.out.kp.le
 clear hx hc
 go_wp2_with (at_builtin; go_must (refine app_lit_at W.heap.size ?r0 elFit ?r1 (.tmp 95) (.tmp 97) ?r2 (base := w.heap.size) HX.out ?r3 #[.func (.func 64) #[] #[]] 76 1 1 ?r4 ?r5 ?r6 ?r7 ?r8 HGE.out ?r9))
 case r0 => rfl
 case r1 => rfl
 case r2 => rfl
 case r3 => rfl
 case r4 => rfl
 case r5 => rfl
 case r6 => first | rfl | exact ⟨rfl, rfl⟩ | (intro u hu; simp at hu; first | (subst hu; rfl) | (rcases hu with rfl | rfl <;> rfl) | (rcases hu with rfl | rfl | rfl <;> rfl))
 case r7 => decide
 case r8 => decide
 case r9 =>
  intro v6 w6 o6 g6 m6 b6
  obtain ⟨qf6, qc6⟩ := HS.out.fr HX.out g6
  have HS6 := hid (WSa.set (HS.out.app HX.out HC.out (fits1 (f := .expr) rfl) rfl o6 g6))
  obtain ⟨A6, c6, rfl⟩ := own_form o6
  clear o6 g6 m6 b6 q0 q1 qf HS HX HC HGE
  go_upto_region 56 with fail
  generalize World.setCell _ _ _ = W2 at HS6 ⊢
  refine want56 (nk := 1) (A := A) (c := c) (Av := A6) (cv := c6) (blk_lt HS6.out.box) (blk_lt HS6.out.node) (blk_cell (o := 0) HS6.out.box rfl) (blk_cell (o := 4) HS6.out.node rfl) (fun u2 hg2 => ?_)
  go_wp2
  go_ret2
  exact ⟨⟨_, rfl, (HS6.out.row.kp CeFit.kp hg2)⟩, HS6.out.kp.trans hg2⟩
theorem wants_file (n : Int) (nk : Nat) (h : nk ≤ 5000) : WantsC 1 n nk (List.replicate nk (.only 2)) := by
 intro w s t A c
 have H0 := WSv.start w #[.int .i64 1, .string s, .string t, .int .i64 n, .slice A nk c]
 go_enter Try.func51, Try.ntmps51
 go_upto_region 7 with fail
 have HS := hid H0
 clear H0
 generalize World.alloc _ _ = W at HS ⊢
 have HL := hid h
 clear h
 go_upto_region 56 with (first | (go_at_call 66; go_must (refine (only_any 2 _).mono ?_); rintro e w1 ⟨⟨g, rfl, hf1⟩, hk1⟩; have HSK := hid (HS.out.keep hk1); have HF1 := hid hf1; clear hk1 hf1) | (go_at_call 63; go_must (refine (all_any (f := .only 2) HL.out HSK.out (Nat.zero_le _) HF1.out HF1.out.one).mono ?_); rintro e w2 ⟨rfl, v2, hs2⟩))
 rw [show ([] : List Fit) ++ List.replicate (nk - ([] : List Fit).length) (Fit.only 2) = List.replicate nk (Fit.only 2) by simp] at hs2
 have HS6 := hid hs2
 clear hs2
 obtain ⟨A7, c7, hv7⟩ := HS6.out.form
 rw [List.length_replicate] at hv7
 subst hv7
 go_upto_region 56 with fail
 refine want56 (nk := nk) (A := A) (c := c) (Av := A7) (cv := c7) (blk_lt HS6.out.box) (blk_lt HS6.out.node) (blk_cell (o := 0) HS6.out.box rfl) (blk_cell (o := 4) HS6.out.node rfl) (fun u2 hg2 => ?_)
 go_wp2
 go_ret2
 exact ⟨⟨_, rfl, (HS6.out.row.kp CeFit.kp hg2)⟩, HS6.out.kp.trans hg2⟩
theorem wants_block (n : Int) (nk : Nat) (h : nk ≤ 5000) : WantsC 5 n nk (List.replicate nk .stated) := by
 intro w s t A c
 have H0 := WSv.start w #[.int .i64 5, .string s, .string t, .int .i64 n, .slice A nk c]
 go_enter Try.func51, Try.ntmps51
 go_upto_region 16 with fail
 have HS := hid H0
 clear H0
 generalize World.alloc _ _ = W at HS ⊢
 have HL := hid h
 clear h
 go_upto_region 56 with (go_at_call 63; go_must (refine (all_any (f := .stated) HL.out HS.out (Nat.zero_le _) rfl rfl).mono ?_); rintro e w2 ⟨rfl, v2, hs2⟩)
 rw [show ([] : List Fit) ++ List.replicate (nk - ([] : List Fit).length) (Fit.stated) = List.replicate nk (Fit.stated) by simp] at hs2
 have HS6 := hid hs2
 clear hs2
 obtain ⟨A7, c7, hv7⟩ := HS6.out.form
 rw [List.length_replicate] at hv7
 subst hv7
 go_upto_region 56 with fail
 refine want56 (nk := nk) (A := A) (c := c) (Av := A7) (cv := c7) (blk_lt HS6.out.box) (blk_lt HS6.out.node) (blk_cell (o := 0) HS6.out.box rfl) (blk_cell (o := 4) HS6.out.node rfl) (fun u2 hg2 => ?_)
 go_wp2
 go_ret2
 exact ⟨⟨_, rfl, (HS6.out.row.kp CeFit.kp hg2)⟩, HS6.out.kp.trans hg2⟩
theorem wants_list (n : Int) (nk : Nat) (h : nk ≤ 5000) : WantsC 32 n nk (List.replicate nk .expr) := by
 intro w s t A c
 have H0 := WSv.start w #[.int .i64 32, .string s, .string t, .int .i64 n, .slice A nk c]
 go_enter Try.func51, Try.ntmps51
 go_upto_region 44 with fail
 have HS := hid H0
 clear H0
 generalize World.alloc _ _ = W at HS ⊢
 have HL := hid h
 clear h
 go_upto_region 56 with (go_at_call 63; go_must (refine (all_any (f := .expr) HL.out HS.out (Nat.zero_le _) rfl rfl).mono ?_); rintro e w2 ⟨rfl, v2, hs2⟩)
 rw [show ([] : List Fit) ++ List.replicate (nk - ([] : List Fit).length) (Fit.expr) = List.replicate nk (Fit.expr) by simp] at hs2
 have HS6 := hid hs2
 clear hs2
 obtain ⟨A7, c7, hv7⟩ := HS6.out.form
 rw [List.length_replicate] at hv7
 subst hv7
 go_upto_region 56 with fail
 refine want56 (nk := nk) (A := A) (c := c) (Av := A7) (cv := c7) (blk_lt HS6.out.box) (blk_lt HS6.out.node) (blk_cell (o := 0) HS6.out.box rfl) (blk_cell (o := 4) HS6.out.node rfl) (fun u2 hg2 => ?_)
 go_wp2
 go_ret2
 exact ⟨⟨_, rfl, (HS6.out.row.kp CeFit.kp hg2)⟩, HS6.out.kp.trans hg2⟩
theorem wants_call (n : Int) (nk : Nat) (h : nk + 1 ≤ 5000) : WantsC 28 n (nk + 1) (List.replicate (nk + 1) .expr) := by
 intro w s t A c
 have H0 := WSv.start w #[.int .i64 28, .string s, .string t, .int .i64 n, .slice A (nk + 1) c]
 obtain ⟨N, hN⟩ : ∃ N, nk + 1 = N := ⟨_, rfl⟩
 have HN := hid hN
 rw [hN] at H0 h ⊢
 clear hN
 have HL := hid h
 clear h
 go_enter Try.func51, Try.ntmps51
 go_upto_region 39 with fail
 have HS := hid H0
 clear H0
 generalize World.alloc _ _ = W at HS ⊢
 have q0 := blk_cell (o := 0) HS.out.box rfl
 have q1 := blk_cell (o := 4) HS.out.node rfl
 have qf := blk_free (o := 0) HS.out.box
 obtain ⟨xs, hx, hc⟩ := HS.out.row
 have HX := hid hx; have HC := hid hc; have HGE := hid HS.out.kp.le
 clear hx hc
 go_wp2_with (at_builtin; go_must (refine app_lit_at W.heap.size ?r0 elFit ?r1 (.tmp 101) (.tmp 103) ?r2 (base := w.heap.size) HX.out ?r3 #[.func (.func 64) #[] #[]] 76 1 1 ?r4 ?r5 ?r6 ?r7 ?r8 HGE.out ?r9))
 case r0 => rfl
 case r1 => rfl
 case r2 => rfl
 case r3 => rfl
 case r4 => rfl
 case r5 => rfl
 case r6 => first | rfl | exact ⟨rfl, rfl⟩ | (intro u hu; simp at hu; first | (subst hu; rfl) | (rcases hu with rfl | rfl <;> rfl) | (rcases hu with rfl | rfl | rfl <;> rfl))
 case r7 => decide
 case r8 => decide
 case r9 =>
  intro v6 w6 o6 g6 m6 b6
  obtain ⟨qf6, qc6⟩ := HS.out.fr HX.out g6
  have HS6 := hid (WSa.set (HS.out.app HX.out HC.out (fits1 (f := .expr) rfl) rfl o6 g6))
  obtain ⟨A6, c6, rfl⟩ := own_form o6
  clear o6 g6 m6 b6 q0 q1 qf HS HX HC HGE
  go_upto_region 40 with fail
  generalize World.setCell _ _ _ = W at HS6 ⊢
  go_upto_region 56 with (go_at_call 63; go_must (refine (all_any (f := .expr) HL.out HS6.out (by have := HN.out; simp; omega) rfl rfl).mono ?_); rintro e w2 ⟨rfl, v2, hs2⟩)
  rw [show ([] : List Fit) ++ [Fit.expr] ++ List.replicate (N - (([] : List Fit) ++ [Fit.expr]).length) Fit.expr = List.replicate N Fit.expr by rw [← HN.out]; simp [List.replicate_succ]] at hs2
  have HS7 := hid hs2
  clear hs2 HS6
  obtain ⟨A7, c7, hv7⟩ := HS7.out.form
  rw [List.length_replicate] at hv7
  subst hv7
  go_upto_region 56 with fail
  refine want56 (nk := N) (A := A) (c := c) (Av := A7) (cv := c7) (blk_lt HS7.out.box) (blk_lt HS7.out.node) (blk_cell (o := 0) HS7.out.box rfl) (blk_cell (o := 4) HS7.out.node rfl) (fun u2 hg2 => ?_)
  go_wp2
  go_ret2
  exact ⟨⟨_, rfl, (HS7.out.row.kp CeFit.kp hg2)⟩, HS7.out.kp.trans hg2⟩
end Go.Proofs.Ytcjgagmcnmmfoaa.Pa

namespace Go.Proofs.Ytcjgagmcnmmfoaa.Pa
open Go.RowKit
theorem app_bd2 {p : Nat} (h : p ≤ 4) : p + 2 ≤ maxLen ∧ (p + 2) * 8 ≤ 140737488355328 := by unfold maxLen; omega
theorem meas_up {j p : Nat} (h : j < p) : p - (intOf (.int .i64 ((j + 1 : Nat) : Int))).toNat < p - (intOf (.int .i64 (j : Int))).toNat := by
 show p - ((j + 1 : Nat) : Int).toNat < p - ((j : Nat) : Int).toNat
 omega
theorem wants_func2 (ar : Nat) (hp : ar ≤ 4) : WantsC 2 ar (ar + 2) (List.replicate ar (.only 3) ++ [.only 4, .only 5]) := by
 intro w s t A c
 have H0 := WSv.start w #[.int .i64 2, .string s, .string t, .int .i64 (ar : Int), .slice A (ar + 2) c]
 have HP := hid hp
 have hm : min (ar : Int) 4 = ar := by omega
 clear hp
 go_enter Try.func51, Try.ntmps51
 go_wp2_with fail
 clear hm
 have HS := hid H0
 clear H0
 go_loopw [22] (fun x wr => ∃ (j : Nat) (vr : Value), j ≤ ar ∧ x = .int .i64 (j : Int) ∧ WSv w (w.heap.size + 1) w.heap.size #[.int .i64 2, .string s, .string t, .int .i64 (ar : Int), .slice A (ar + 2) c] vr (List.replicate j (.only 3)) wr) (fun x _ => ar - (intOf x).toNat)
 case atStart => exact ⟨0, _, Nat.zero_le _, rfl, HS.out⟩
 case round =>
  obtain ⟨j, vr, hj, rfl, hs⟩ := hrel
  clear HS
  have HS := hid hs
  obtain ⟨Aj, cj, hv⟩ := hs.form
  rw [List.length_replicate] at hv
  subst hv
  clear hs
  have BB := hid (show w.heap.size + 1 < wr.heap.size from blk_lt HS.out.box)
  have HOB := hid (show ∀ g, (Value.slice Aj j cj).ownBlock = some g → g < wr.heap.size from fun g hg => HS.out.own_lt hg)
  by_cases hl : j < ar
  ·have i1 : (j : Int) < (ar : Int) := by omega
   have HL := hid hl
   have HJ4 := hid (show j < 4 from Nat.lt_of_lt_of_le hl HP.out)
   have k1 : IntKind.i64.wrap ((j : Int) + 1) = ((j + 1 : Nat) : Int) := by rw [IntKind.wrap_i64]; have := HJ4.out; omega
   have HK1 := hid k1
   clear hl hj k1
   go_upto_region 12 with fail
   clear i1
   refine wp_region_phase [3, 4] [(0, 0), (0, 0), (0, 0), (0, 0), (0, 0)] (KpF wr.heap.size) [[], [], [1], [0, 2], [3]]
    (fun (p : Nat) (x : Nat → Value) (u : World) => match p with | 0 => WSv w (w.heap.size + 1) w.heap.size #[.int .i64 2, .string s, .string t, .int .i64 (ar : Int), .slice A (ar + 2) c] (.slice Aj j cj) (List.replicate j (.only 3)) u ∧ wr.heap.size ≤ u.heap.size | 1 => ∃ A7 c7, x 3 = .slice A7 (j + 1) c7 ∧ WSa w (w.heap.size + 1) w.heap.size #[.int .i64 2, .string s, .string t, .int .i64 (ar : Int), .slice A (ar + 2) c] (.slice Aj j cj) (.slice A7 (j + 1) c7) (List.replicate j (Fit.only 3) ++ [.only 3]) u | _ => ∃ A7 c7, WSv w (w.heap.size + 1) w.heap.size #[.int .i64 2, .string s, .string t, .int .i64 (ar : Int), .slice A (ar + 2) c] (.slice A7 (j + 1) c7) (List.replicate j (Fit.only 3) ++ [.only 3]) u)
    [fun (y : Value) (u : World) => y = (.slice Aj j cj : Value),
    fun (y : Value) (u : World) => FnAt wr.heap.size 3 y u,
    fun (y : Value) (u : World) => ∃ v1, FnAt wr.heap.size 3 v1 u ∧ LitN wr.heap.size 76 #[v1] 1 y u,
    fun (y : Value) (u : World) => True,
    fun (y : Value) (u : World) => True]
    (by kernel_rfl) (by kernel_rfl) (by kernel_rfl) (by kernel_rfl) (by kernel_rfl) (by kernel_rfl) (fun _ _ hk => KpF.of_kp hk) (⟨HS.out.keep (Kp.refl _).drew, Nat.le_refl _⟩) ?hKb ?hXb ⟨fun _ _ _ _ h => h, fun _ _ _ hk h => h.keep hk, fun _ _ _ hk h => by obtain ⟨v1, h1, h2⟩ := h; exact ⟨v1, h1.keep hk, h2.keep hk⟩, fun _ _ _ _ _ => trivial, fun _ _ _ _ _ => trivial, trivial⟩ ⟨?sb0, ?sb1, ?sb2, ?sb3, ?sb4, trivial⟩ ?hEb
   case hKb =>
    intro p x w w' hk h
    rcases p with _ | _ | p
    ·exact ⟨h.1.keep hk, Nat.le_trans h.2 hk.le⟩
    ·exact (by obtain ⟨A7, c7, h1, h2⟩ := h; exact ⟨A7, c7, h1, h2.keep hk⟩)
    ·exact (by obtain ⟨A7, c7, h1⟩ := h; exact ⟨A7, c7, h1.keep hk⟩)
   case hXb =>
    intro p x i v w hi h
    have e0 : upd x i v 3 = x 3 := if_neg (fun hh => hi (by rw [← hh]; decide))
    have e1 : upd x i v 4 = x 4 := if_neg (fun hh => hi (by rw [← hh]; decide))
    rcases p with _ | _ | p
    ·first | exact h | (simp only [e0, e1]; exact h)
    ·first | exact h | (simp only [e0, e1]; exact h)
    ·first | exact h | (simp only [e0, e1]; exact h)
   case sb0 =>
    refine OpStepQ.off 0 0 (by kernel_rfl) (by kernel_rfl) ?_
    intro x u p hp hg hd K hK
    obtain rfl : p = 0 := by omega
    change WSv w (w.heap.size + 1) w.heap.size #[.int .i64 2, .string s, .string t, .int .i64 (ar : Int), .slice A (ar + 2) c] (.slice Aj j cj) (List.replicate j (.only 3)) u ∧ wr.heap.size ≤ u.heap.size at hg
    clear hd
    have q := blk_cell (o := 0) hg.1.box rfl
    clear hg
    refine ⟨?_⟩
    simp only [putsFrom, Act.put, List.setIfInBounds_toArray, List.set_cons_zero, List.set_cons_succ, Nat.reduceAdd] at hK ⊢
    go_simp
    exact hK.out _ _ (Kp.refl _) rfl
   case sb1 =>
    refine OpStepQ.off 0 0 (by kernel_rfl) (by kernel_rfl) ?_
    intro x u p hp hg hd K hK
    obtain rfl : p = 0 := by omega
    change WSv w (w.heap.size + 1) w.heap.size #[.int .i64 2, .string s, .string t, .int .i64 (ar : Int), .slice A (ar + 2) c] (.slice Aj j cj) (List.replicate j (.only 3)) u ∧ wr.heap.size ≤ u.heap.size at hg
    clear hd
    refine ⟨?_⟩
    simp only [putsFrom, Act.put, List.setIfInBounds_toArray, List.set_cons_zero, List.set_cons_succ, Nat.reduceAdd] at hK ⊢
    go_simp
    go_at_call 66
    have hc := only_at 3 u wr.heap.size hg.2
    refine hc.mono ?_
    clear hc
    rintro e u' ⟨⟨f1, rfl, hf⟩, hk9⟩
    dsimp only
    exact hK.out _ _ hk9 hf
   case sb2 =>
    refine OpStepQ.off 0 0 (by kernel_rfl) (by kernel_rfl) ?_
    intro x u p hp hg hd K hK
    obtain rfl : p = 0 := by omega
    change WSv w (w.heap.size + 1) w.heap.size #[.int .i64 2, .string s, .string t, .int .i64 (ar : Int), .slice A (ar + 2) c] (.slice Aj j cj) (List.replicate j (.only 3)) u ∧ wr.heap.size ≤ u.heap.size at hg
    have d1 : FnAt wr.heap.size 3 (x 1) u := hd.1
    clear hd
    obtain ⟨p1, hb1, e1, hh1⟩ := d1
    refine ⟨?_⟩
    simp only [putsFrom, Act.put, List.setIfInBounds_toArray, List.set_cons_zero, List.set_cons_succ, Nat.reduceAdd, e1] at hK ⊢
    go_simp
    exact hK.out _ _ ((Kp.refl _).alloc _) ⟨_, ⟨p1, hb1, rfl, KpF.of_kp ((Kp.refl _).alloc _) _ _ hb1 hh1⟩, _, rfl, hg.2, blk_new _ _⟩
   case sb3 =>
    refine OpStepQ.on 0 (by kernel_rfl) (by kernel_rfl) ?_
    intro x u hg hd K hK
    change WSv w (w.heap.size + 1) w.heap.size #[.int .i64 2, .string s, .string t, .int .i64 (ar : Int), .slice A (ar + 2) c] (.slice Aj j cj) (List.replicate j (.only 3)) u ∧ wr.heap.size ≤ u.heap.size at hg
    have d0 : (x 0) = .slice Aj j cj := hd.1
    have d2 : ∃ v1, FnAt wr.heap.size 3 v1 u ∧ LitN wr.heap.size 76 #[v1] 1 (x 2) u := hd.2.1
    clear hd
    obtain ⟨v1, f1, b, e6, hb6, hlit⟩ := d2
    obtain ⟨xs, l1, l2⟩ := hg.1.row
    refine ⟨?_⟩
    simp only [putsFrom, Act.put, List.setIfInBounds_toArray, List.set_cons_zero, List.set_cons_succ, Nat.reduceAdd, d0, e6] at hK ⊢
    rw [if_pos (by simp [Region.wanted])]
    refine wp_appP elFit (.tmp 24) (.tmp 26) (by rfl) l1 (by rfl) [v1] _ 1 1 (by rfl) rfl (fun _ => ⟨_, rfl, lit_src hlit⟩) (by intro u hu; simp at hu; subst hu; obtain ⟨p, _, rfl, _⟩ := f1; rfl) (by rw [List.length_replicate]; exact (app_bd HJ4.out (by decide)).1) (by rw [List.length_replicate]; exact (app_bd HJ4.out (by decide)).2) hg.1.kp.le ?_
    intro v' w' G1 G2 G3 G4
    have HP := hg.1.app l1 l2 (fits1 f1.fn) rfl G1 G2
    rw [List.length_replicate] at G1
    obtain ⟨A', c', rfl⟩ := own_form G1
    exact hK.out _ w' (KpF.of_grown G2 (fun g hg5 => HOB.out g hg5)) ⟨A', c', rfl, HP⟩ trivial
   case sb4 =>
    refine OpStepQ.on 1 (by kernel_rfl) (by kernel_rfl) ?_
    intro x u hg hd K hK
    change ∃ A7 c7, x 3 = .slice A7 (j + 1) c7 ∧ WSa w (w.heap.size + 1) w.heap.size #[.int .i64 2, .string s, .string t, .int .i64 (ar : Int), .slice A (ar + 2) c] (.slice Aj j cj) (.slice A7 (j + 1) c7) (List.replicate j (Fit.only 3) ++ [.only 3]) u at hg
    clear hd
    obtain ⟨A7, c7, e7, hg2⟩ := hg
    have q := blk_cell (o := 0) hg2.box rfl
    have qf := blk_free (o := 0) hg2.box
    have HG1 := hid hg2
    clear hg2
    refine ⟨?_⟩
    simp only [putsFrom, Act.put, List.setIfInBounds_toArray, List.set_cons_zero, List.set_cons_succ, Nat.reduceAdd, e7] at hK ⊢
    go_simp
    exact hK.out undef _ (KpF.setCell BB.out _) ⟨A7, c7, HG1.out.set⟩ trivial
   intro x u hg he
   have d0 : (x 0) = .slice Aj j cj := he.1
   have d1 : FnAt wr.heap.size 3 (x 1) u := he.2.1
   have d2 : ∃ v1, FnAt wr.heap.size 3 v1 u ∧ LitN wr.heap.size 76 #[v1] 1 (x 2) u := he.2.2.1
   clear he
   change ∃ A7 c7, WSv w (w.heap.size + 1) w.heap.size #[.int .i64 2, .string s, .string t, .int .i64 (ar : Int), .slice A (ar + 2) c] (.slice A7 (j + 1) c7) (List.replicate j (Fit.only 3) ++ [.only 3]) u at hg
   refine ⟨?_⟩
   simp only [putsFrom, Act.put, List.setIfInBounds_toArray, List.set_cons_zero, List.set_cons_succ, Nat.reduceAdd, d0]
   clear d0
   obtain ⟨A7, c7, h7⟩ := hg
   rw [← List.replicate_succ'] at h7
   have H7 := hid h7
   have k1 := HK1.out
   clear h7
   go_wp2
   refine ⟨⟨j + 1, _, HL.out, rfl, H7.out⟩, ?_⟩
   exact meas_up HL.out
  ·have i1 : ¬ (j : Int) < (ar : Int) := by omega
   obtain rfl : j = ar := by omega
   clear hl hj
   go_upto_region 14 with fail
   clear i1
   refine wp_region_phase [4, 5] [(0, 0), (0, 0), (0, 0), (0, 0), (0, 0), (0, 0)] (KpF wr.heap.size) [[], [], [], [1, 2], [0, 3], [4]]
    (fun (p : Nat) (x : Nat → Value) (u : World) => match p with | 0 => WSv w (w.heap.size + 1) w.heap.size #[.int .i64 2, .string s, .string t, .int .i64 (j : Int), .slice A (j + 2) c] (.slice Aj j cj) (List.replicate j (.only 3)) u ∧ wr.heap.size ≤ u.heap.size | 1 => ∃ A7 c7, x 4 = .slice A7 (j + 2) c7 ∧ WSa w (w.heap.size + 1) w.heap.size #[.int .i64 2, .string s, .string t, .int .i64 (j : Int), .slice A (j + 2) c] (.slice Aj j cj) (.slice A7 (j + 2) c7) (List.replicate j (Fit.only 3) ++ [.only 4, .only 5]) u | _ => ∃ A7 c7, WSv w (w.heap.size + 1) w.heap.size #[.int .i64 2, .string s, .string t, .int .i64 (j : Int), .slice A (j + 2) c] (.slice A7 (j + 2) c7) (List.replicate j (Fit.only 3) ++ [.only 4, .only 5]) u)
    [fun (y : Value) (u : World) => y = (.slice Aj j cj : Value),
    fun (y : Value) (u : World) => FnAt wr.heap.size 4 y u,
    fun (y : Value) (u : World) => FnAt wr.heap.size 5 y u,
    fun (y : Value) (u : World) => ∃ v1 v2, FnAt wr.heap.size 4 v1 u ∧ FnAt wr.heap.size 5 v2 u ∧ LitN wr.heap.size 76 #[v1, v2] 2 y u,
    fun (y : Value) (u : World) => True,
    fun (y : Value) (u : World) => True]
    (by kernel_rfl) (by kernel_rfl) (by kernel_rfl) (by kernel_rfl) (by kernel_rfl) (by kernel_rfl) (fun _ _ hk => KpF.of_kp hk) (⟨HS.out.keep (Kp.refl _).drew, Nat.le_refl _⟩) ?hKc ?hXc ⟨fun _ _ _ _ h => h, fun _ _ _ hk h => h.keep hk, fun _ _ _ hk h => h.keep hk, fun _ _ _ hk h => by obtain ⟨v1, v2, h1, h2, h3⟩ := h; exact ⟨v1, v2, h1.keep hk, h2.keep hk, h3.keep hk⟩, fun _ _ _ _ _ => trivial, fun _ _ _ _ _ => trivial, trivial⟩ ⟨?sc0, ?sc1, ?sc2, ?sc3, ?sc4, ?sc5, trivial⟩ ?hEc
   case hKc =>
    intro p x w w' hk h
    rcases p with _ | _ | p
    ·exact ⟨h.1.keep hk, Nat.le_trans h.2 hk.le⟩
    ·exact (by obtain ⟨A7, c7, h1, h2⟩ := h; exact ⟨A7, c7, h1, h2.keep hk⟩)
    ·exact (by obtain ⟨A7, c7, h1⟩ := h; exact ⟨A7, c7, h1.keep hk⟩)
   case hXc =>
    intro p x i v w hi h
    have e0 : upd x i v 4 = x 4 := if_neg (fun hh => hi (by rw [← hh]; decide))
    have e1 : upd x i v 5 = x 5 := if_neg (fun hh => hi (by rw [← hh]; decide))
    rcases p with _ | _ | p
    ·first | exact h | (simp only [e0, e1]; exact h)
    ·first | exact h | (simp only [e0, e1]; exact h)
    ·first | exact h | (simp only [e0, e1]; exact h)
   case sc0 =>
    refine OpStepQ.off 0 0 (by kernel_rfl) (by kernel_rfl) ?_
    intro x u p hp hg hd K hK
    obtain rfl : p = 0 := by omega
    change WSv w (w.heap.size + 1) w.heap.size #[.int .i64 2, .string s, .string t, .int .i64 (j : Int), .slice A (j + 2) c] (.slice Aj j cj) (List.replicate j (.only 3)) u ∧ wr.heap.size ≤ u.heap.size at hg
    clear hd
    have q := blk_cell (o := 0) hg.1.box rfl
    clear hg
    refine ⟨?_⟩
    simp only [putsFrom, Act.put, List.setIfInBounds_toArray, List.set_cons_zero, List.set_cons_succ, Nat.reduceAdd] at hK ⊢
    go_simp
    exact hK.out _ _ (Kp.refl _) rfl
   case sc1 =>
    refine OpStepQ.off 0 0 (by kernel_rfl) (by kernel_rfl) ?_
    intro x u p hp hg hd K hK
    obtain rfl : p = 0 := by omega
    change WSv w (w.heap.size + 1) w.heap.size #[.int .i64 2, .string s, .string t, .int .i64 (j : Int), .slice A (j + 2) c] (.slice Aj j cj) (List.replicate j (.only 3)) u ∧ wr.heap.size ≤ u.heap.size at hg
    clear hd
    refine ⟨?_⟩
    simp only [putsFrom, Act.put, List.setIfInBounds_toArray, List.set_cons_zero, List.set_cons_succ, Nat.reduceAdd] at hK ⊢
    go_simp
    go_at_call 66
    have hc := only_at 4 u wr.heap.size hg.2
    refine hc.mono ?_
    clear hc
    rintro e u' ⟨⟨f1, rfl, hf⟩, hk9⟩
    dsimp only
    exact hK.out _ _ hk9 hf
   case sc2 =>
    refine OpStepQ.off 0 0 (by kernel_rfl) (by kernel_rfl) ?_
    intro x u p hp hg hd K hK
    obtain rfl : p = 0 := by omega
    change WSv w (w.heap.size + 1) w.heap.size #[.int .i64 2, .string s, .string t, .int .i64 (j : Int), .slice A (j + 2) c] (.slice Aj j cj) (List.replicate j (.only 3)) u ∧ wr.heap.size ≤ u.heap.size at hg
    clear hd
    refine ⟨?_⟩
    simp only [putsFrom, Act.put, List.setIfInBounds_toArray, List.set_cons_zero, List.set_cons_succ, Nat.reduceAdd] at hK ⊢
    go_simp
    go_at_call 66
    have hc := only_at 5 u wr.heap.size hg.2
    refine hc.mono ?_
    clear hc
    rintro e u' ⟨⟨f1, rfl, hf⟩, hk9⟩
    dsimp only
    exact hK.out _ _ hk9 hf
   case sc3 =>
    refine OpStepQ.off 0 0 (by kernel_rfl) (by kernel_rfl) ?_
    intro x u p hp hg hd K hK
    obtain rfl : p = 0 := by omega
    change WSv w (w.heap.size + 1) w.heap.size #[.int .i64 2, .string s, .string t, .int .i64 (j : Int), .slice A (j + 2) c] (.slice Aj j cj) (List.replicate j (.only 3)) u ∧ wr.heap.size ≤ u.heap.size at hg
    have d1 : FnAt wr.heap.size 4 (x 1) u := hd.1
    have d2 : FnAt wr.heap.size 5 (x 2) u := hd.2.1
    clear hd
    obtain ⟨p1, hb1, e1, hh1⟩ := d1
    obtain ⟨p2, hb2, e2, hh2⟩ := d2
    refine ⟨?_⟩
    simp only [putsFrom, Act.put, List.setIfInBounds_toArray, List.set_cons_zero, List.set_cons_succ, Nat.reduceAdd, e1, e2] at hK ⊢
    go_simp
    exact hK.out _ _ ((Kp.refl _).alloc _) ⟨_, _, ⟨p1, hb1, rfl, KpF.of_kp ((Kp.refl _).alloc _) _ _ hb1 hh1⟩, ⟨p2, hb2, rfl, KpF.of_kp ((Kp.refl _).alloc _) _ _ hb2 hh2⟩, _, rfl, hg.2, blk_new _ _⟩
   case sc4 =>
    refine OpStepQ.on 0 (by kernel_rfl) (by kernel_rfl) ?_
    intro x u hg hd K hK
    change WSv w (w.heap.size + 1) w.heap.size #[.int .i64 2, .string s, .string t, .int .i64 (j : Int), .slice A (j + 2) c] (.slice Aj j cj) (List.replicate j (.only 3)) u ∧ wr.heap.size ≤ u.heap.size at hg
    have d0 : (x 0) = .slice Aj j cj := hd.1
    have d3 : ∃ v1 v2, FnAt wr.heap.size 4 v1 u ∧ FnAt wr.heap.size 5 v2 u ∧ LitN wr.heap.size 76 #[v1, v2] 2 (x 3) u := hd.2.1
    clear hd
    obtain ⟨v1, v2, f1, f2, b, e6, hb6, hlit⟩ := d3
    obtain ⟨xs, l1, l2⟩ := hg.1.row
    refine ⟨?_⟩
    simp only [putsFrom, Act.put, List.setIfInBounds_toArray, List.set_cons_zero, List.set_cons_succ, Nat.reduceAdd, d0, e6] at hK ⊢
    rw [if_pos (by simp [Region.wanted])]
    refine wp_appP elFit (.tmp 29) (.tmp 32) (by rfl) l1 (by rfl) [v1, v2] _ 2 2 (by rfl) rfl (fun _ => ⟨_, rfl, lit_src hlit⟩) (by intro u hu; simp at hu; rcases hu with rfl | rfl; (obtain ⟨p, _, rfl, _⟩ := f1; rfl); obtain ⟨p, _, rfl, _⟩ := f2; rfl) (by rw [List.length_replicate]; exact (app_bd2 HP.out).1) (by rw [List.length_replicate]; exact (app_bd2 HP.out).2) hg.1.kp.le ?_
    intro v' w' G1 G2 G3 G4
    have HP := hg.1.app l1 l2 (fits2 f1.fn f2.fn) rfl G1 G2
    rw [List.length_replicate] at G1
    obtain ⟨A', c', rfl⟩ := own_form G1
    exact hK.out _ w' (KpF.of_grown G2 (fun g hg5 => HOB.out g hg5)) ⟨A', c', rfl, HP⟩ trivial
   case sc5 =>
    refine OpStepQ.on 1 (by kernel_rfl) (by kernel_rfl) ?_
    intro x u hg hd K hK
    change ∃ A7 c7, x 4 = .slice A7 (j + 2) c7 ∧ WSa w (w.heap.size + 1) w.heap.size #[.int .i64 2, .string s, .string t, .int .i64 (j : Int), .slice A (j + 2) c] (.slice Aj j cj) (.slice A7 (j + 2) c7) (List.replicate j (Fit.only 3) ++ [.only 4, .only 5]) u at hg
    clear hd
    obtain ⟨A7, c7, e7, hg2⟩ := hg
    have q := blk_cell (o := 0) hg2.box rfl
    have qf := blk_free (o := 0) hg2.box
    have HG1 := hid hg2
    clear hg2
    refine ⟨?_⟩
    simp only [putsFrom, Act.put, List.setIfInBounds_toArray, List.set_cons_zero, List.set_cons_succ, Nat.reduceAdd, e7] at hK ⊢
    go_simp
    exact hK.out undef _ (KpF.setCell BB.out _) ⟨A7, c7, HG1.out.set⟩ trivial
   intro x u hg he
   have d0 : (x 0) = .slice Aj j cj := he.1
   have d1 : FnAt wr.heap.size 4 (x 1) u := he.2.1
   have d2 : FnAt wr.heap.size 5 (x 2) u := he.2.2.1
   have d3 : ∃ v1 v2, FnAt wr.heap.size 4 v1 u ∧ FnAt wr.heap.size 5 v2 u ∧ LitN wr.heap.size 76 #[v1, v2] 2 (x 3) u := he.2.2.2.1
   clear he
   change ∃ A7 c7, WSv w (w.heap.size + 1) w.heap.size #[.int .i64 2, .string s, .string t, .int .i64 (j : Int), .slice A (j + 2) c] (.slice A7 (j + 2) c7) (List.replicate j (Fit.only 3) ++ [.only 4, .only 5]) u at hg
   refine ⟨?_⟩
   simp only [putsFrom, Act.put, List.setIfInBounds_toArray, List.set_cons_zero, List.set_cons_succ, Nat.reduceAdd, d0]
   clear d0
   obtain ⟨A7, c7, h7⟩ := hg
   have HS6 := hid h7
   clear h7
   go_upto_region 56 with fail
   refine want56 (nk := (j + 2)) (A := A) (c := c) (Av := A7) (cv := c7) (blk_lt HS6.out.box) (blk_lt HS6.out.node) (blk_cell (o := 0) HS6.out.box rfl) (blk_cell (o := 4) HS6.out.node rfl) (fun u2 hg2 => ?_)
   go_wp2
   go_ret2
   exact ⟨⟨_, rfl, (HS6.out.row.kp CeFit.kp hg2)⟩, HS6.out.kp.trans hg2⟩
theorem wants_func33 (ar : Nat) (hp : ar ≤ 4) : WantsC 33 ar (ar + 2) (List.replicate ar (.only 3) ++ [.only 4, .only 5]) := by
 intro w s t A c
 have H0 := WSv.start w #[.int .i64 33, .string s, .string t, .int .i64 (ar : Int), .slice A (ar + 2) c]
 have HP := hid hp
 have hm : min (ar : Int) 4 = ar := by omega
 clear hp
 go_enter Try.func51, Try.ntmps51
 go_wp2_with fail
 clear hm
 have HS := hid H0
 clear H0
 go_loopw [22] (fun x wr => ∃ (j : Nat) (vr : Value), j ≤ ar ∧ x = .int .i64 (j : Int) ∧ WSv w (w.heap.size + 1) w.heap.size #[.int .i64 33, .string s, .string t, .int .i64 (ar : Int), .slice A (ar + 2) c] vr (List.replicate j (.only 3)) wr) (fun x _ => ar - (intOf x).toNat)
 case atStart => exact ⟨0, _, Nat.zero_le _, rfl, HS.out⟩
 case round =>
  obtain ⟨j, vr, hj, rfl, hs⟩ := hrel
  clear HS
  have HS := hid hs
  obtain ⟨Aj, cj, hv⟩ := hs.form
  rw [List.length_replicate] at hv
  subst hv
  clear hs
  have BB := hid (show w.heap.size + 1 < wr.heap.size from blk_lt HS.out.box)
  have HOB := hid (show ∀ g, (Value.slice Aj j cj).ownBlock = some g → g < wr.heap.size from fun g hg => HS.out.own_lt hg)
  by_cases hl : j < ar
  ·have i1 : (j : Int) < (ar : Int) := by omega
   have HL := hid hl
   have HJ4 := hid (show j < 4 from Nat.lt_of_lt_of_le hl HP.out)
   have k1 : IntKind.i64.wrap ((j : Int) + 1) = ((j + 1 : Nat) : Int) := by rw [IntKind.wrap_i64]; have := HJ4.out; omega
   have HK1 := hid k1
   clear hl hj k1
   go_upto_region 12 with fail
   clear i1
   refine wp_region_phase [3, 4] [(0, 0), (0, 0), (0, 0), (0, 0), (0, 0)] (KpF wr.heap.size) [[], [], [1], [0, 2], [3]]
    (fun (p : Nat) (x : Nat → Value) (u : World) => match p with | 0 => WSv w (w.heap.size + 1) w.heap.size #[.int .i64 33, .string s, .string t, .int .i64 (ar : Int), .slice A (ar + 2) c] (.slice Aj j cj) (List.replicate j (.only 3)) u ∧ wr.heap.size ≤ u.heap.size | 1 => ∃ A7 c7, x 3 = .slice A7 (j + 1) c7 ∧ WSa w (w.heap.size + 1) w.heap.size #[.int .i64 33, .string s, .string t, .int .i64 (ar : Int), .slice A (ar + 2) c] (.slice Aj j cj) (.slice A7 (j + 1) c7) (List.replicate j (Fit.only 3) ++ [.only 3]) u | _ => ∃ A7 c7, WSv w (w.heap.size + 1) w.heap.size #[.int .i64 33, .string s, .string t, .int .i64 (ar : Int), .slice A (ar + 2) c] (.slice A7 (j + 1) c7) (List.replicate j (Fit.only 3) ++ [.only 3]) u)
    [fun (y : Value) (u : World) => y = (.slice Aj j cj : Value),
    fun (y : Value) (u : World) => FnAt wr.heap.size 3 y u,
    fun (y : Value) (u : World) => ∃ v1, FnAt wr.heap.size 3 v1 u ∧ LitN wr.heap.size 76 #[v1] 1 y u,
    fun (y : Value) (u : World) => True,
    fun (y : Value) (u : World) => True]
    (by kernel_rfl) (by kernel_rfl) (by kernel_rfl) (by kernel_rfl) (by kernel_rfl) (by kernel_rfl) (fun _ _ hk => KpF.of_kp hk) (⟨HS.out.keep (Kp.refl _).drew, Nat.le_refl _⟩) ?hKd ?hXd ⟨fun _ _ _ _ h => h, fun _ _ _ hk h => h.keep hk, fun _ _ _ hk h => by obtain ⟨v1, h1, h2⟩ := h; exact ⟨v1, h1.keep hk, h2.keep hk⟩, fun _ _ _ _ _ => trivial, fun _ _ _ _ _ => trivial, trivial⟩ ⟨?sd0, ?sd1, ?sd2, ?sd3, ?sd4, trivial⟩ ?hEd
   case hKd =>
    intro p x w w' hk h
    rcases p with _ | _ | p
    ·exact ⟨h.1.keep hk, Nat.le_trans h.2 hk.le⟩
    ·exact (by obtain ⟨A7, c7, h1, h2⟩ := h; exact ⟨A7, c7, h1, h2.keep hk⟩)
    ·exact (by obtain ⟨A7, c7, h1⟩ := h; exact ⟨A7, c7, h1.keep hk⟩)
   case hXd =>
    intro p x i v w hi h
    have e0 : upd x i v 3 = x 3 := if_neg (fun hh => hi (by rw [← hh]; decide))
    have e1 : upd x i v 4 = x 4 := if_neg (fun hh => hi (by rw [← hh]; decide))
    rcases p with _ | _ | p
    ·first | exact h | (simp only [e0, e1]; exact h)
    ·first | exact h | (simp only [e0, e1]; exact h)
    ·first | exact h | (simp only [e0, e1]; exact h)
   case sd0 =>
    refine OpStepQ.off 0 0 (by kernel_rfl) (by kernel_rfl) ?_
    intro x u p hp hg hd K hK
    obtain rfl : p = 0 := by omega
    change WSv w (w.heap.size + 1) w.heap.size #[.int .i64 33, .string s, .string t, .int .i64 (ar : Int), .slice A (ar + 2) c] (.slice Aj j cj) (List.replicate j (.only 3)) u ∧ wr.heap.size ≤ u.heap.size at hg
    clear hd
    have q := blk_cell (o := 0) hg.1.box rfl
    clear hg
    refine ⟨?_⟩
    simp only [putsFrom, Act.put, List.setIfInBounds_toArray, List.set_cons_zero, List.set_cons_succ, Nat.reduceAdd] at hK ⊢
    go_simp
    exact hK.out _ _ (Kp.refl _) rfl
   case sd1 =>
    refine OpStepQ.off 0 0 (by kernel_rfl) (by kernel_rfl) ?_
    intro x u p hp hg hd K hK
    obtain rfl : p = 0 := by omega
    change WSv w (w.heap.size + 1) w.heap.size #[.int .i64 33, .string s, .string t, .int .i64 (ar : Int), .slice A (ar + 2) c] (.slice Aj j cj) (List.replicate j (.only 3)) u ∧ wr.heap.size ≤ u.heap.size at hg
    clear hd
    refine ⟨?_⟩
    simp only [putsFrom, Act.put, List.setIfInBounds_toArray, List.set_cons_zero, List.set_cons_succ, Nat.reduceAdd] at hK ⊢
    go_simp
    go_at_call 66
    have hc := only_at 3 u wr.heap.size hg.2
    refine hc.mono ?_
    clear hc
    rintro e u' ⟨⟨f1, rfl, hf⟩, hk9⟩
    dsimp only
    exact hK.out _ _ hk9 hf
   case sd2 =>
    refine OpStepQ.off 0 0 (by kernel_rfl) (by kernel_rfl) ?_
    intro x u p hp hg hd K hK
    obtain rfl : p = 0 := by omega
    change WSv w (w.heap.size + 1) w.heap.size #[.int .i64 33, .string s, .string t, .int .i64 (ar : Int), .slice A (ar + 2) c] (.slice Aj j cj) (List.replicate j (.only 3)) u ∧ wr.heap.size ≤ u.heap.size at hg
    have d1 : FnAt wr.heap.size 3 (x 1) u := hd.1
    clear hd
    obtain ⟨p1, hb1, e1, hh1⟩ := d1
    refine ⟨?_⟩
    simp only [putsFrom, Act.put, List.setIfInBounds_toArray, List.set_cons_zero, List.set_cons_succ, Nat.reduceAdd, e1] at hK ⊢
    go_simp
    exact hK.out _ _ ((Kp.refl _).alloc _) ⟨_, ⟨p1, hb1, rfl, KpF.of_kp ((Kp.refl _).alloc _) _ _ hb1 hh1⟩, _, rfl, hg.2, blk_new _ _⟩
   case sd3 =>
    refine OpStepQ.on 0 (by kernel_rfl) (by kernel_rfl) ?_
    intro x u hg hd K hK
    change WSv w (w.heap.size + 1) w.heap.size #[.int .i64 33, .string s, .string t, .int .i64 (ar : Int), .slice A (ar + 2) c] (.slice Aj j cj) (List.replicate j (.only 3)) u ∧ wr.heap.size ≤ u.heap.size at hg
    have d0 : (x 0) = .slice Aj j cj := hd.1
    have d2 : ∃ v1, FnAt wr.heap.size 3 v1 u ∧ LitN wr.heap.size 76 #[v1] 1 (x 2) u := hd.2.1
    clear hd
    obtain ⟨v1, f1, b, e6, hb6, hlit⟩ := d2
    obtain ⟨xs, l1, l2⟩ := hg.1.row
    refine ⟨?_⟩
    simp only [putsFrom, Act.put, List.setIfInBounds_toArray, List.set_cons_zero, List.set_cons_succ, Nat.reduceAdd, d0, e6] at hK ⊢
    rw [if_pos (by simp [Region.wanted])]
    refine wp_appP elFit (.tmp 24) (.tmp 26) (by rfl) l1 (by rfl) [v1] _ 1 1 (by rfl) rfl (fun _ => ⟨_, rfl, lit_src hlit⟩) (by intro u hu; simp at hu; subst hu; obtain ⟨p, _, rfl, _⟩ := f1; rfl) (by rw [List.length_replicate]; exact (app_bd HJ4.out (by decide)).1) (by rw [List.length_replicate]; exact (app_bd HJ4.out (by decide)).2) hg.1.kp.le ?_
    intro v' w' G1 G2 G3 G4
    have HP := hg.1.app l1 l2 (fits1 f1.fn) rfl G1 G2
    rw [List.length_replicate] at G1
    obtain ⟨A', c', rfl⟩ := own_form G1
    exact hK.out _ w' (KpF.of_grown G2 (fun g hg5 => HOB.out g hg5)) ⟨A', c', rfl, HP⟩ trivial
   case sd4 =>
    refine OpStepQ.on 1 (by kernel_rfl) (by kernel_rfl) ?_
    intro x u hg hd K hK
    change ∃ A7 c7, x 3 = .slice A7 (j + 1) c7 ∧ WSa w (w.heap.size + 1) w.heap.size #[.int .i64 33, .string s, .string t, .int .i64 (ar : Int), .slice A (ar + 2) c] (.slice Aj j cj) (.slice A7 (j + 1) c7) (List.replicate j (Fit.only 3) ++ [.only 3]) u at hg
    clear hd
    obtain ⟨A7, c7, e7, hg2⟩ := hg
    have q := blk_cell (o := 0) hg2.box rfl
    have qf := blk_free (o := 0) hg2.box
    have HG1 := hid hg2
    clear hg2
    refine ⟨?_⟩
    simp only [putsFrom, Act.put, List.setIfInBounds_toArray, List.set_cons_zero, List.set_cons_succ, Nat.reduceAdd, e7] at hK ⊢
    go_simp
    exact hK.out undef _ (KpF.setCell BB.out _) ⟨A7, c7, HG1.out.set⟩ trivial
   intro x u hg he
   have d0 : (x 0) = .slice Aj j cj := he.1
   have d1 : FnAt wr.heap.size 3 (x 1) u := he.2.1
   have d2 : ∃ v1, FnAt wr.heap.size 3 v1 u ∧ LitN wr.heap.size 76 #[v1] 1 (x 2) u := he.2.2.1
   clear he
   change ∃ A7 c7, WSv w (w.heap.size + 1) w.heap.size #[.int .i64 33, .string s, .string t, .int .i64 (ar : Int), .slice A (ar + 2) c] (.slice A7 (j + 1) c7) (List.replicate j (Fit.only 3) ++ [.only 3]) u at hg
   refine ⟨?_⟩
   simp only [putsFrom, Act.put, List.setIfInBounds_toArray, List.set_cons_zero, List.set_cons_succ, Nat.reduceAdd, d0]
   clear d0
   obtain ⟨A7, c7, h7⟩ := hg
   rw [← List.replicate_succ'] at h7
   have H7 := hid h7
   have k1 := HK1.out
   clear h7
   go_wp2
   refine ⟨⟨j + 1, _, HL.out, rfl, H7.out⟩, ?_⟩
   exact meas_up HL.out
  ·have i1 : ¬ (j : Int) < (ar : Int) := by omega
   obtain rfl : j = ar := by omega
   clear hl hj
   go_upto_region 14 with fail
   clear i1
   refine wp_region_phase [4, 5] [(0, 0), (0, 0), (0, 0), (0, 0), (0, 0), (0, 0)] (KpF wr.heap.size) [[], [], [], [1, 2], [0, 3], [4]]
    (fun (p : Nat) (x : Nat → Value) (u : World) => match p with | 0 => WSv w (w.heap.size + 1) w.heap.size #[.int .i64 33, .string s, .string t, .int .i64 (j : Int), .slice A (j + 2) c] (.slice Aj j cj) (List.replicate j (.only 3)) u ∧ wr.heap.size ≤ u.heap.size | 1 => ∃ A7 c7, x 4 = .slice A7 (j + 2) c7 ∧ WSa w (w.heap.size + 1) w.heap.size #[.int .i64 33, .string s, .string t, .int .i64 (j : Int), .slice A (j + 2) c] (.slice Aj j cj) (.slice A7 (j + 2) c7) (List.replicate j (Fit.only 3) ++ [.only 4, .only 5]) u | _ => ∃ A7 c7, WSv w (w.heap.size + 1) w.heap.size #[.int .i64 33, .string s, .string t, .int .i64 (j : Int), .slice A (j + 2) c] (.slice A7 (j + 2) c7) (List.replicate j (Fit.only 3) ++ [.only 4, .only 5]) u)
    [fun (y : Value) (u : World) => y = (.slice Aj j cj : Value),
    fun (y : Value) (u : World) => FnAt wr.heap.size 4 y u,
    fun (y : Value) (u : World) => FnAt wr.heap.size 5 y u,
    fun (y : Value) (u : World) => ∃ v1 v2, FnAt wr.heap.size 4 v1 u ∧ FnAt wr.heap.size 5 v2 u ∧ LitN wr.heap.size 76 #[v1, v2] 2 y u,
    fun (y : Value) (u : World) => True,
    fun (y : Value) (u : World) => True]
    (by kernel_rfl) (by kernel_rfl) (by kernel_rfl) (by kernel_rfl) (by kernel_rfl) (by kernel_rfl) (fun _ _ hk => KpF.of_kp hk) (⟨HS.out.keep (Kp.refl _).drew, Nat.le_refl _⟩) ?hKe ?hXe ⟨fun _ _ _ _ h => h, fun _ _ _ hk h => h.keep hk, fun _ _ _ hk h => h.keep hk, fun _ _ _ hk h => by obtain ⟨v1, v2, h1, h2, h3⟩ := h; exact ⟨v1, v2, h1.keep hk, h2.keep hk, h3.keep hk⟩, fun _ _ _ _ _ => trivial, fun _ _ _ _ _ => trivial, trivial⟩ ⟨?se0, ?se1, ?se2, ?se3, ?se4, ?se5, trivial⟩ ?hEe
   case hKe =>
    intro p x w w' hk h
    rcases p with _ | _ | p
    ·exact ⟨h.1.keep hk, Nat.le_trans h.2 hk.le⟩
    ·exact (by obtain ⟨A7, c7, h1, h2⟩ := h; exact ⟨A7, c7, h1, h2.keep hk⟩)
    ·exact (by obtain ⟨A7, c7, h1⟩ := h; exact ⟨A7, c7, h1.keep hk⟩)
   case hXe =>
    intro p x i v w hi h
    have e0 : upd x i v 4 = x 4 := if_neg (fun hh => hi (by rw [← hh]; decide))
    have e1 : upd x i v 5 = x 5 := if_neg (fun hh => hi (by rw [← hh]; decide))
    rcases p with _ | _ | p
    ·first | exact h | (simp only [e0, e1]; exact h)
    ·first | exact h | (simp only [e0, e1]; exact h)
    ·first | exact h | (simp only [e0, e1]; exact h)
   case se0 =>
    refine OpStepQ.off 0 0 (by kernel_rfl) (by kernel_rfl) ?_
    intro x u p hp hg hd K hK
    obtain rfl : p = 0 := by omega
    change WSv w (w.heap.size + 1) w.heap.size #[.int .i64 33, .string s, .string t, .int .i64 (j : Int), .slice A (j + 2) c] (.slice Aj j cj) (List.replicate j (.only 3)) u ∧ wr.heap.size ≤ u.heap.size at hg
    clear hd
    have q := blk_cell (o := 0) hg.1.box rfl
    clear hg
    refine ⟨?_⟩
    simp only [putsFrom, Act.put, List.setIfInBounds_toArray, List.set_cons_zero, List.set_cons_succ, Nat.reduceAdd] at hK ⊢
    go_simp
    exact hK.out _ _ (Kp.refl _) rfl
   case se1 =>
    refine OpStepQ.off 0 0 (by kernel_rfl) (by kernel_rfl) ?_
    intro x u p hp hg hd K hK
    obtain rfl : p = 0 := by omega
    change WSv w (w.heap.size + 1) w.heap.size #[.int .i64 33, .string s, .string t, .int .i64 (j : Int), .slice A (j + 2) c] (.slice Aj j cj) (List.replicate j (.only 3)) u ∧ wr.heap.size ≤ u.heap.size at hg
    clear hd
    refine ⟨?_⟩
    simp only [putsFrom, Act.put, List.setIfInBounds_toArray, List.set_cons_zero, List.set_cons_succ, Nat.reduceAdd] at hK ⊢
    go_simp
    go_at_call 66
    have hc := only_at 4 u wr.heap.size hg.2
    refine hc.mono ?_
    clear hc
    rintro e u' ⟨⟨f1, rfl, hf⟩, hk9⟩
    dsimp only
    exact hK.out _ _ hk9 hf
   case se2 =>
    refine OpStepQ.off 0 0 (by kernel_rfl) (by kernel_rfl) ?_
    intro x u p hp hg hd K hK
    obtain rfl : p = 0 := by omega
    change WSv w (w.heap.size + 1) w.heap.size #[.int .i64 33, .string s, .string t, .int .i64 (j : Int), .slice A (j + 2) c] (.slice Aj j cj) (List.replicate j (.only 3)) u ∧ wr.heap.size ≤ u.heap.size at hg
    clear hd
    refine ⟨?_⟩
    simp only [putsFrom, Act.put, List.setIfInBounds_toArray, List.set_cons_zero, List.set_cons_succ, Nat.reduceAdd] at hK ⊢
    go_simp
    go_at_call 66
    have hc := only_at 5 u wr.heap.size hg.2
    refine hc.mono ?_
    clear hc
    rintro e u' ⟨⟨f1, rfl, hf⟩, hk9⟩
    dsimp only
    exact hK.out _ _ hk9 hf
   case se3 =>
    refine OpStepQ.off 0 0 (by kernel_rfl) (by kernel_rfl) ?_
    intro x u p hp hg hd K hK
    obtain rfl : p = 0 := by omega
    change WSv w (w.heap.size + 1) w.heap.size #[.int .i64 33, .string s, .string t, .int .i64 (j : Int), .slice A (j + 2) c] (.slice Aj j cj) (List.replicate j (.only 3)) u ∧ wr.heap.size ≤ u.heap.size at hg
    have d1 : FnAt wr.heap.size 4 (x 1) u := hd.1
    have d2 : FnAt wr.heap.size 5 (x 2) u := hd.2.1
    clear hd
    obtain ⟨p1, hb1, e1, hh1⟩ := d1
    obtain ⟨p2, hb2, e2, hh2⟩ := d2
    refine ⟨?_⟩
    simp only [putsFrom, Act.put, List.setIfInBounds_toArray, List.set_cons_zero, List.set_cons_succ, Nat.reduceAdd, e1, e2] at hK ⊢
    go_simp
    exact hK.out _ _ ((Kp.refl _).alloc _) ⟨_, _, ⟨p1, hb1, rfl, KpF.of_kp ((Kp.refl _).alloc _) _ _ hb1 hh1⟩, ⟨p2, hb2, rfl, KpF.of_kp ((Kp.refl _).alloc _) _ _ hb2 hh2⟩, _, rfl, hg.2, blk_new _ _⟩
   case se4 =>
    refine OpStepQ.on 0 (by kernel_rfl) (by kernel_rfl) ?_
    intro x u hg hd K hK
    change WSv w (w.heap.size + 1) w.heap.size #[.int .i64 33, .string s, .string t, .int .i64 (j : Int), .slice A (j + 2) c] (.slice Aj j cj) (List.replicate j (.only 3)) u ∧ wr.heap.size ≤ u.heap.size at hg
    have d0 : (x 0) = .slice Aj j cj := hd.1
    have d3 : ∃ v1 v2, FnAt wr.heap.size 4 v1 u ∧ FnAt wr.heap.size 5 v2 u ∧ LitN wr.heap.size 76 #[v1, v2] 2 (x 3) u := hd.2.1
    clear hd
    obtain ⟨v1, v2, f1, f2, b, e6, hb6, hlit⟩ := d3
    obtain ⟨xs, l1, l2⟩ := hg.1.row
    refine ⟨?_⟩
    simp only [putsFrom, Act.put, List.setIfInBounds_toArray, List.set_cons_zero, List.set_cons_succ, Nat.reduceAdd, d0, e6] at hK ⊢
    rw [if_pos (by simp [Region.wanted])]
    refine wp_appP elFit (.tmp 29) (.tmp 32) (by rfl) l1 (by rfl) [v1, v2] _ 2 2 (by rfl) rfl (fun _ => ⟨_, rfl, lit_src hlit⟩) (by intro u hu; simp at hu; rcases hu with rfl | rfl; (obtain ⟨p, _, rfl, _⟩ := f1; rfl); obtain ⟨p, _, rfl, _⟩ := f2; rfl) (by rw [List.length_replicate]; exact (app_bd2 HP.out).1) (by rw [List.length_replicate]; exact (app_bd2 HP.out).2) hg.1.kp.le ?_
    intro v' w' G1 G2 G3 G4
    have HP := hg.1.app l1 l2 (fits2 f1.fn f2.fn) rfl G1 G2
    rw [List.length_replicate] at G1
    obtain ⟨A', c', rfl⟩ := own_form G1
    exact hK.out _ w' (KpF.of_grown G2 (fun g hg5 => HOB.out g hg5)) ⟨A', c', rfl, HP⟩ trivial
   case se5 =>
    refine OpStepQ.on 1 (by kernel_rfl) (by kernel_rfl) ?_
    intro x u hg hd K hK
    change ∃ A7 c7, x 4 = .slice A7 (j + 2) c7 ∧ WSa w (w.heap.size + 1) w.heap.size #[.int .i64 33, .string s, .string t, .int .i64 (j : Int), .slice A (j + 2) c] (.slice Aj j cj) (.slice A7 (j + 2) c7) (List.replicate j (Fit.only 3) ++ [.only 4, .only 5]) u at hg
    clear hd
    obtain ⟨A7, c7, e7, hg2⟩ := hg
    have q := blk_cell (o := 0) hg2.box rfl
    have qf := blk_free (o := 0) hg2.box
    have HG1 := hid hg2
    clear hg2
    refine ⟨?_⟩
    simp only [putsFrom, Act.put, List.setIfInBounds_toArray, List.set_cons_zero, List.set_cons_succ, Nat.reduceAdd, e7] at hK ⊢
    go_simp
    exact hK.out undef _ (KpF.setCell BB.out _) ⟨A7, c7, HG1.out.set⟩ trivial
   intro x u hg he
   have d0 : (x 0) = .slice Aj j cj := he.1
   have d1 : FnAt wr.heap.size 4 (x 1) u := he.2.1
   have d2 : FnAt wr.heap.size 5 (x 2) u := he.2.2.1
   have d3 : ∃ v1 v2, FnAt wr.heap.size 4 v1 u ∧ FnAt wr.heap.size 5 v2 u ∧ LitN wr.heap.size 76 #[v1, v2] 2 (x 3) u := he.2.2.2.1
   clear he
   change ∃ A7 c7, WSv w (w.heap.size + 1) w.heap.size #[.int .i64 33, .string s, .string t, .int .i64 (j : Int), .slice A (j + 2) c] (.slice A7 (j + 2) c7) (List.replicate j (Fit.only 3) ++ [.only 4, .only 5]) u at hg
   refine ⟨?_⟩
   simp only [putsFrom, Act.put, List.setIfInBounds_toArray, List.set_cons_zero, List.set_cons_succ, Nat.reduceAdd, d0]
   clear d0
   obtain ⟨A7, c7, h7⟩ := hg
   have HS6 := hid h7
   clear h7
   go_upto_region 56 with fail
   refine want56 (nk := (j + 2)) (A := A) (c := c) (Av := A7) (cv := c7) (blk_lt HS6.out.box) (blk_lt HS6.out.node) (blk_cell (o := 0) HS6.out.box rfl) (blk_cell (o := 4) HS6.out.node rfl) (fun u2 hg2 => ?_)
   go_wp2
   go_ret2
   exact ⟨⟨_, rfl, (HS6.out.row.kp CeFit.kp hg2)⟩, HS6.out.kp.trans hg2⟩
theorem wants_func (k : Int) (p : Nat) (hp : p ≤ 4) (hk : k = 2 ∨ k = 33) : WantsC k p (p + 2) (List.replicate p (.only 3) ++ [.only 4, .only 5]) := by
 rcases hk with rfl | rfl
 ·exact wants_func2 p hp
 ·exact wants_func33 p hp
end Go.Proofs.Ytcjgagmcnmmfoaa.Pa

namespace Go.Proofs.Ytcjgagmcnmmfoaa.Pa
open Go.RowKit

structure KidsOk (fs : List Fit) (ks : List T) : Prop where
 len : fs.length = ks.length
 fit : ∀ (i : Nat) (f : Fit) (t : T), fs[i]? = some f → ks[i]? = some t → f.fits (kindT t)
theorem KidsOk.nil : KidsOk [] [] := ⟨rfl, fun i f t h => by simp at h⟩
theorem KidsOk.cons {f : Fit} {fs : List Fit} {t : T} {ks : List T} (h : f.fits (kindT t)) (k : KidsOk fs ks) : KidsOk (f :: fs) (t :: ks) := by
 refine ⟨by simp [k.len], fun i g u hg hu => ?_⟩
 cases i with
 | zero => simp at hg hu; subst hg hu; exact h
 | succ i => simp at hg hu; exact k.fit i g u hg hu
theorem KidsOk.all {f : Fit} : ∀ {ks : List T}, (∀ t ∈ ks, f.fits (kindT t)) → KidsOk (List.replicate ks.length f) ks
 | [], _ => KidsOk.nil
 | t :: r, h => by
  rw [List.length_cons, List.replicate_succ]
  exact KidsOk.cons (h t (by simp)) (KidsOk.all fun u hu => h u (by simp [hu]))
theorem KidsOk.app {fs gs : List Fit} {ks ms : List T} (h : KidsOk fs ks) (k : KidsOk gs ms) : KidsOk (fs ++ gs) (ks ++ ms) := by
 induction fs generalizing ks with
 | nil =>
  have := h.len
  cases ks with
  | nil => exact k
  | cons t r => simp at this
 | cons f fs ih =>
  cases ks with
  | nil => have := h.len; simp at this
  | cons t r =>
   refine KidsOk.cons (h.fit 0 f t rfl rfl) (ih ⟨?_, fun i g u hg hu => h.fit (i + 1) g u (by simpa using hg) (by simpa using hu)⟩)
   have := h.len; simpa using this
theorem KidsOk.one {f : Fit} {t : T} (h : f.fits (kindT t)) : KidsOk [f] [t] := KidsOk.cons h KidsOk.nil
theorem KidsOk.two {f g : Fit} {t u : T} (h : f.fits (kindT t)) (h2 : g.fits (kindT u)) : KidsOk [f, g] [t, u] := KidsOk.cons h (KidsOk.one h2)
theorem KidsOk.three {f g e : Fit} {t u v : T} (h : f.fits (kindT t)) (h2 : g.fits (kindT u)) (h3 : e.fits (kindT v)) : KidsOk [f, g, e] [t, u, v] := KidsOk.cons h (KidsOk.two h2 h3)
structure NodeOk (k n : Int) (ks : List T) : Prop where
 wants : ∃ fs, WantsC k n ks.length fs ∧ KidsOk fs ks
 kids : ∀ t ∈ ks, GT t
 flag : k = 23 → n = 0 ∨ n = 1
 num : k = 2 ∨ k = 33 → n = (ks.length : Int) - 2
theorem gt_fits {k n : Int} {s t : ByteArray} {ks : List T} (h : GT (.node k s t n ks)) (hl : ks.length ≤ 5000) : NodeOk k n ks := by
 cases h with
 | file _ h1 h2 => exact ⟨⟨_, wants_file 0 _ hl, KidsOk.all h2⟩, h1, fun h => by omega, fun h => by omega⟩
 | func _ _ ps q b hk h1 h2 h3 h4 h5 h6 h7 =>
  have hk2 : k = 2 ∨ k = 33 := by rcases hk with h | h; exact .inl h.1; exact .inr h.1
  refine ⟨⟨_, by rw [List.length_append]; exact wants_func k ps.length h3 hk2, (KidsOk.all (f := .only 3) h2).app (KidsOk.two (f := .only 4) (g := .only 5) h5 h7)⟩, ?_, fun h => by omega, fun _ => by simp⟩
  intro u hu
  rcases List.mem_append.1 hu with hu | hu
  ·exact h1 u hu
  ·rcases List.mem_cons.1 hu with rfl | hu
   ·exact h4
   ·rw [List.mem_singleton.1 hu]; exact h6
 | named _ _ _ hk _ _ => exact ⟨⟨_, wants_bare k 0 (by rcases hk with h | h <;> simp [h]), KidsOk.nil⟩, fun t ht => (by cases ht), fun h => by omega, fun h => by omega⟩
 | res0 => exact ⟨⟨_, wants_bare 4 0 (by simp), KidsOk.nil⟩, fun t ht => (by cases ht), fun h => by omega, fun h => by omega⟩
 | res _ _ _ _ => exact ⟨⟨_, wants_bare 4 0 (by simp), KidsOk.nil⟩, fun t ht => (by cases ht), fun h => by omega, fun h => by omega⟩
 | block _ h1 h2 => exact ⟨⟨_, wants_block 0 _ hl, KidsOk.all h2⟩, h1, fun h => by omega, fun h => by omega⟩
 | define _ a _ h1 h2 => exact ⟨⟨_, wants_e1 7 0 (by simp), KidsOk.one (f := .expr) h2⟩, fun t ht => (by rw [List.mem_singleton.1 ht]; exact h1), fun h => by omega, fun h => by omega⟩
 | assign a b h1 h2 _ h3 h4 => exact ⟨⟨_, wants_e2 8 0 (by simp), KidsOk.two (f := .expr) (g := .expr) h3 h4⟩, by intro t ht; simp at ht; rcases ht with rfl | rfl <;> assumption, fun h => by omega, fun h => by omega⟩
 | calls _ a hk h1 h2 => exact ⟨⟨_, wants_only k 0 hk, KidsOk.one (f := .only 28) h2⟩, fun t ht => (by rw [List.mem_singleton.1 ht]; exact h1), fun h => by omega, fun h => by omega⟩
 | if2 a b h1 h2 h3 h4 => exact ⟨⟨_, wants_if2 0, KidsOk.two (f := .expr) (g := .only 5) h3 h4⟩, by intro t ht; simp at ht; rcases ht with rfl | rfl <;> assumption, fun h => by omega, fun h => by omega⟩
 | if3 a b c h1 h2 h3 h4 h5 h6 => exact ⟨⟨_, wants_if3 0, KidsOk.three (f := .expr) (g := .only 5) (e := .blif) h4 h5 h6⟩, by intro t ht; simp at ht; rcases ht with rfl | rfl | rfl <;> assumption, fun h => by omega, fun h => by omega⟩
 | for1 b h1 h2 => exact ⟨⟨_, wants_for1 0, KidsOk.one (f := .only 5) h2⟩, fun t ht => (by rw [List.mem_singleton.1 ht]; exact h1), fun h => by omega, fun h => by omega⟩
 | for2 a b h1 h2 h3 h4 => exact ⟨⟨_, wants_for2 0, KidsOk.two (f := .expr) (g := .only 5) h3 h4⟩, by intro t ht; simp at ht; rcases ht with rfl | rfl <;> assumption, fun h => by omega, fun h => by omega⟩
 | bare _ hk => exact ⟨⟨_, wants_bare k 0 (by rcases hk with h | h | h | h | h <;> simp [h]), KidsOk.nil⟩, fun t ht => (by cases ht), fun h => by omega, fun h => by omega⟩
 | ret a h1 h2 => exact ⟨⟨_, wants_ret1 0, KidsOk.one (f := .expr) h2⟩, fun t ht => (by rw [List.mem_singleton.1 ht]; exact h1), fun h => by omega, fun h => by omega⟩
 | int _ _ => exact ⟨⟨_, wants_bare 21 n (by simp), KidsOk.nil⟩, fun t ht => (by cases ht), fun h => by omega, fun h => by omega⟩
 | text _ _ => exact ⟨⟨_, wants_bare 22 0 (by simp), KidsOk.nil⟩, fun t ht => (by cases ht), fun h => by omega, fun h => by omega⟩
 | bool _ h => exact ⟨⟨_, wants_bare 23 n (by simp), KidsOk.nil⟩, fun t ht => (by cases ht), fun _ => h, fun h => by omega⟩
 | name _ _ => exact ⟨⟨_, wants_bare 25 0 (by simp), KidsOk.nil⟩, fun t ht => (by cases ht), fun h => by omega, fun h => by omega⟩
 | una _ a _ h1 h2 => exact ⟨⟨_, wants_e1 26 0 (by simp), KidsOk.one (f := .expr) h2⟩, fun t ht => (by rw [List.mem_singleton.1 ht]; exact h1), fun h => by omega, fun h => by omega⟩
 | bin _ a b _ h1 h2 h3 h4 => exact ⟨⟨_, wants_e2 27 0 (by simp), KidsOk.two (f := .expr) (g := .expr) h3 h4⟩, by intro t ht; simp at ht; rcases ht with rfl | rfl <;> assumption, fun h => by omega, fun h => by omega⟩
 | call a ks h1 h2 h3 h4 =>
  refine ⟨⟨_, wants_call 0 ks.length (by simp at hl; omega), KidsOk.all (ks := a :: ks) ?_⟩, ?_, fun h => by omega, fun h => by omega⟩
  ·intro u hu
   rcases List.mem_cons.1 hu with rfl | hu
   ·exact h3
   ·exact h4 u hu
  ·intro u hu
   rcases List.mem_cons.1 hu with rfl | hu
   ·exact h1
   ·exact h2 u hu
 | idx a b h1 h2 h3 h4 => exact ⟨⟨_, wants_e2 29 0 (by simp), KidsOk.two (f := .expr) (g := .expr) h3 h4⟩, by intro t ht; simp at ht; rcases ht with rfl | rfl <;> assumption, fun h => by omega, fun h => by omega⟩
 | cut a b c h1 h2 h3 h4 h5 h6 => exact ⟨⟨_, wants_e3 30 0 (by simp), KidsOk.three (f := .expr) (g := .orn) (e := .orn) h4 h5 h6⟩, by intro t ht; simp at ht; rcases ht with rfl | rfl | rfl <;> assumption, fun h => by omega, fun h => by omega⟩
 | list _ h1 h2 => exact ⟨⟨_, wants_list 0 _ hl, KidsOk.all (f := .expr) h2⟩, h1, fun h => by omega, fun h => by omega⟩

theorem name_toks {s : ByteArray} (h : NmOk s) : ToksM s (.ok [⟨1, s, 1, 1⟩, ⟨6, semiB, 1, 1 + s.size⟩]) := by
 obtain ⟨h1, h2⟩ := h
 have hr : restOf s 0 = s.data.toList := by simp [restOf]
 have hp : 0 < s.size := by
  cases hq : s.data.toList with
  | nil => rw [hq] at h2; simp [lex] at h2
  | cons b r =>
   have : s.size = (b :: r).length := by rw [← hq]; rfl
   rw [this]; simp
 unfold ToksM
 rw [if_neg (by omega)]
 have he : s.extract 0 (0 + s.size) = s := by rw [Nat.zero_add]; exact ByteArray.extract_zero_size
 have hs : stepM s cut0 = .ok ⟨s.size, 1, 1 + s.size, [⟨1, s, 1, 1⟩]⟩ := by
  unfold stepM
  show (match lex (restOf s 0) with | .nl => _ | .skip n => _ | .tok k n => putM cut0 k (s.extract 0 (0 + n)) n | .bad e => _) = _
  rw [hr, h2]
  show putM cut0 1 (s.extract 0 (0 + s.size)) s.size = _
  rw [he]
  simp [putM, cut0]
 refine Runs.step (c := cut0) hp hs ?_
 exact Runs.fin (S := s) (c := ⟨s.size, 1, 1 + s.size, [⟨1, s, 1, 1⟩]⟩) (Nat.le_refl _)
end Go.Proofs.Ytcjgagmcnmmfoaa.Pa

