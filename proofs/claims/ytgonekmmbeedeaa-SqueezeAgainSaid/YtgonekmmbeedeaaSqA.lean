/-
Package squeeze, plainly: jumps, what can be come to, what stays; squeezing comes to an end. No condition.
Packages squeeze and guard: leaves. No condition. (Printed by a program, wip/gen_sqw.py.)
Package squeeze: copies of instructions, thread. Condition: the rows lie within the reach.
Package squeeze: next, live. Condition: the rows lie within the reach. (next is printed by a program, wip/gen_sql.py.)
-/
import Derived.Test.YtgonekmmbeedeaaSoundQ
import Derived.Test.YtgonekmmbeedeaaSoundI
import Derived.Test.YtgonekmmbeedeaaOCode
import Derived.Test.YtgonekmmbeedeaaCodeS
import Derived.Test.YtgonekmmbeedeaaRegF
import Derived.Test.YtgonekmmbeedeaaRegionT
namespace Go.Proofs.Ytgonekmmbeedeaa.Sq
open Go.RowKit
set_option linter.unusedVariables false
set_option linter.unusedSimpArgs false

def isA (i : InsM) : Prop := i.op = 25 ∨ i.op = 26 ∨ i.op = 36 ∨ i.op = 40
def isB (i : InsM) : Prop := i.op = 27 ∨ i.op = 38
def isEnd (i : InsM) : Prop := i.op = 26 ∨ i.op = 29 ∨ i.op = 30
instance (i : InsM) : Decidable (isA i) := by unfold isA; infer_instance
instance (i : InsM) : Decidable (isB i) := by unfold isB; infer_instance
instance (i : InsM) : Decidable (isEnd i) := by unfold isEnd; infer_instance
def targetM (i : InsM) : Option Int := if isA i then some i.a else if isB i then some i.b else none
def aimM (i : InsM) (p : Int) : InsM := if isB i then { i with b := p } else { i with a := p }
theorem aim_op (i : InsM) (p : Int) : (aimM i p).op = i.op := by unfold aimM; split <;> rfl
theorem aim_target {i : InsM} {t : Int} (h : targetM i = some t) (p : Int) : targetM (aimM i p) = some p := by
  have ho := aim_op i p
  have e1 : isA (aimM i p) ↔ isA i := by unfold isA; rw [ho]
  have e2 : isB (aimM i p) ↔ isB i := by unfold isB; rw [ho]
  unfold targetM at h ⊢
  by_cases ha : isA i
  · rw [if_pos (e1.2 ha)]
    have hb : ¬ isB i := by unfold isA at ha; unfold isB; omega
    unfold aimM
    rw [if_neg hb]
  · rw [if_neg ha] at h
    by_cases hb : isB i
    · rw [if_neg (fun x => ha (e1.1 x)), if_pos (e2.2 hb)]
      unfold aimM
      rw [if_pos hb]
    · rw [if_neg hb] at h; cases h
theorem aim_self {i : InsM} {t : Int} (h : targetM i = some t) : aimM i t = i := by
  unfold targetM at h
  by_cases ha : isA i
  · rw [if_pos ha] at h
    have hb : ¬ isB i := by unfold isA at ha; unfold isB; omega
    injection h with h
    unfold aimM
    rw [if_neg hb, ← h]
  · rw [if_neg ha] at h
    by_cases hb : isB i
    · rw [if_pos hb] at h
      injection h with h
      unfold aimM
      rw [if_pos hb, ← h]
    · rw [if_neg hb] at h; cases h
theorem aim_aim {i : InsM} {t : Int} (h : targetM i = some t) (p q : Int) : aimM (aimM i p) q = aimM i q := by
  have e2 : isB (aimM i p) ↔ isB i := by unfold isB; rw [aim_op]
  by_cases hb : isB i
  · have hb' : isB (aimM i p) := e2.2 hb
    have e : aimM (aimM i p) q = { aimM i p with b := q } := by show (if isB (aimM i p) then _ else _) = _; rw [if_pos hb']
    rw [e]
    unfold aimM
    rw [if_pos hb, if_pos hb]
  · have hb' : ¬ isB (aimM i p) := fun x => hb (e2.1 x)
    have e : aimM (aimM i p) q = { aimM i p with a := q } := by show (if isB (aimM i p) then _ else _) = _; rw [if_neg hb']
    rw [e]
    unfold aimM
    rw [if_neg hb, if_neg hb]
/-- What an instruction is with its target put elsewhere. -/
def reM (f : Int → Int) (i : InsM) : InsM := match targetM i with | some t => aimM i (f t) | none => i
theorem re_op (f : Int → Int) (i : InsM) : (reM f i).op = i.op := by unfold reM; split; exact aim_op _ _; rfl
theorem re_target (f : Int → Int) (i : InsM) : targetM (reM f i) = (targetM i).map f := by
  unfold reM
  cases h : targetM i with
  | none => simpa using h
  | some t => simpa using aim_target h _
theorem re_id {f : Int → Int} {i : InsM} (h : ∀ t, targetM i = some t → f t = t) : reM f i = i := by
  unfold reM
  cases ht : targetM i with
  | none => rfl
  | some t => simp only [h t ht]; exact aim_self ht
theorem re_re (f g : Int → Int) (i : InsM) : reM g (reM f i) = reM (fun t => g (f t)) i := by
  unfold reM
  cases h : targetM i with
  | none => simp only [h]
  | some t => simp only [aim_target h]; exact aim_aim h _ _
theorem re_congr {f g : Int → Int} {i : InsM} (h : ∀ t, targetM i = some t → f t = g t) : reM f i = reM g i := by
  unfold reM
  cases ht : targetM i with
  | none => rfl
  | some t => simp only [h t ht]
/-- A function's instructions that go on within it. -/
structure GoodL (l : List InsM) : Prop where
  tg : ∀ i ∈ l, ∀ t, targetM i = some t → 0 ≤ t ∧ t < l.length
  last : ∃ i, l.getLast? = some i ∧ isEnd i
theorem GoodL.ne {l : List InsM} (h : GoodL l) : l ≠ [] := by obtain ⟨i, h1, _⟩ := h.last; intro e; rw [e] at h1; cases h1
theorem GoodL.pos {l : List InsM} (h : GoodL l) : 0 < l.length := List.length_pos_iff.2 h.ne
theorem GoodL.at_ {l : List InsM} (h : GoodL l) {p : Nat} {i : InsM} {t : Int} (hp : l[p]? = some i) (ht : targetM i = some t) : 0 ≤ t ∧ t < l.length := h.tg i (List.mem_of_getElem? hp) t ht
theorem GoodL.mid {l : List InsM} (h : GoodL l) {p : Nat} {i : InsM} (hp : l[p]? = some i) (hn : ¬ isEnd i) : p + 1 < l.length := by
  have hlt : p < l.length := by rcases List.getElem?_eq_some_iff.1 hp with ⟨h, _⟩; exact h
  rcases Nat.lt_or_ge (p + 1) l.length with h1 | h1
  · exact h1
  · obtain ⟨j, h2, h3⟩ := h.last
    rw [List.getLast?_eq_getElem?, show l.length - 1 = p by omega, hp] at h2
    injection h2 with h2
    exact absurd (h2 ▸ h3) hn
/-! ### through jumps -/
def endGo (l : List InsM) : Nat → Nat → Option Nat
  | 0, _ => none
  | n + 1, p => match l[p]? with
    | some i => if i.op = 26 then endGo l n i.a.toNat else some p
    | none => none
def endM (l : List InsM) (p : Nat) : Nat := (endGo l l.length p).getD p
theorem jump_target {i : InsM} (h : i.op = 26) : targetM i = some i.a := by unfold targetM; rw [if_pos (by unfold isA; omega)]
theorem endGo_some {l : List InsM} : ∀ {n p q : Nat}, endGo l n p = some q → ∃ i, l[q]? = some i ∧ i.op ≠ 26
  | 0, _, _, h => by cases h
  | n + 1, p, q, h => by
    unfold endGo at h
    split at h
    · rename_i i hi
      split at h
      · exact endGo_some h
      · rename_i ho; injection h with h; subst h; exact ⟨i, hi, ho⟩
    · cases h
theorem endGo_more {l : List InsM} : ∀ {n p q : Nat}, endGo l n p = some q → ∀ m, n ≤ m → endGo l m p = some q
  | 0, _, _, h, _, _ => by cases h
  | n + 1, p, q, h, 0, hm => by omega
  | n + 1, p, q, h, m + 1, hm => by
    unfold endGo at h ⊢
    split at h
    · rename_i i hi
      split at h
      · rename_i ho
        simp only [ho, if_true]
        exact endGo_more h m (by omega)
      · rename_i ho
        simp only [ho, if_false]
        exact h
    · cases h
/-- The place after k jumps. -/
def hop (l : List InsM) : Nat → Nat → Nat
  | 0, p => p
  | k + 1, p => match l[p]? with
    | some i => hop l k i.a.toNat
    | none => p
theorem endGo_hop {l : List InsM} : ∀ {k n p q : Nat}, endGo l (k + n) p = some q → (∀ j, j ≤ k → ∃ i, l[hop l j p]? = some i ∧ (j < k → i.op = 26)) → endGo l n (hop l k p) = some q
  | 0, n, p, q, h, _ => by simpa [hop] using h
  | k + 1, n, p, q, h, hj => by
    obtain ⟨i, hi, ho⟩ := hj 0 (by omega)
    have ho := ho (by omega)
    rw [show hop l 0 p = p from rfl] at hi
    rw [show k + 1 + n = (k + n) + 1 by omega] at h
    unfold endGo at h
    rw [hi] at h
    simp only [ho, if_true] at h
    have e : ∀ j, hop l (j + 1) p = hop l j i.a.toNat := fun j => by show (match l[p]? with | some i => hop l j i.a.toNat | none => p) = _; rw [hi]
    rw [e]
    refine endGo_hop h fun j hj' => ?_
    obtain ⟨i', h1, h2⟩ := hj (j + 1) (by omega)
    rw [e] at h1
    exact ⟨i', h1, fun hl => h2 (by omega)⟩
theorem pigeon : ∀ (n m : Nat) (f : Nat → Nat), (∀ j, j < m → f j < n) → (∀ a b, a < b → b < m → f a ≠ f b) → m ≤ n
  | 0, m, f, h, _ => by
    rcases Nat.eq_zero_or_pos m with h0 | h0
    · omega
    · have := h 0 h0; omega
  | n + 1, m, f, h, hi => by
    by_cases hx : ∃ j, j < m ∧ f j = n
    · obtain ⟨j, hj, he⟩ := hx
      have := pigeon n (m - 1) (fun k => if k < j then f k else f (k + 1)) (fun k hk => by
        show (if k < j then f k else f (k + 1)) < n
        split
        · have h1 := h k (by omega); have h2 := hi k j (by omega) hj; omega
        · have h1 := h (k + 1) (by omega); have h2 := hi j (k + 1) (by omega) (by omega); omega) (fun a b hab hb => by
        show (if a < j then f a else f (a + 1)) ≠ (if b < j then f b else f (b + 1))
        split <;> split
        · exact hi a b hab (by omega)
        · exact hi a (b + 1) (by omega) (by omega)
        · omega
        · exact hi (a + 1) (b + 1) (by omega) (by omega))
      omega
    · have := pigeon n m f (fun j hj => by have h1 := h j hj; have : f j ≠ n := fun e => hx ⟨j, hj, e⟩; omega) hi
      omega
/-- What is come to at all is come to in no more steps than there are instructions. -/
theorem endGo_len {l : List InsM} {p q : Nat} : ∀ {n : Nat}, endGo l n p = some q → endGo l l.length p = some q := by
  intro n h
  -- the least number of steps
  obtain ⟨m, hm, hmin⟩ : ∃ m, endGo l m p = some q ∧ ∀ k, k < m → endGo l k p ≠ some q := by
    induction n using Nat.strongRecOn with
    | ind n ih =>
      by_cases hx : ∃ k, k < n ∧ endGo l k p = some q
      · obtain ⟨k, hk, hq⟩ := hx; exact ih k hk hq
      · exact ⟨n, h, fun k hk hq => hx ⟨k, hk, hq⟩⟩
  -- all hops are jumps but the last
  have hop_some : ∀ {n p : Nat}, endGo l n p = some q → (∀ k, k < n → endGo l k p ≠ some q) → ∀ j, j < n → ∃ i, l[hop l j p]? = some i ∧ (j + 1 < n → i.op = 26) := by
    intro n
    induction n with
    | zero => intro p h _ j hj; omega
    | succ n ih =>
      intro p h hmin j hj
      unfold endGo at h
      split at h
      · rename_i i hi
        cases j with
        | zero =>
          refine ⟨i, hi, fun hn => ?_⟩
          by_cases ho : i.op = 26
          · exact ho
          · simp only [ho, if_false] at h
            exfalso
            refine hmin 1 (by omega) ?_
            show (match l[p]? with | some i => if i.op = 26 then endGo l 0 i.a.toNat else some p | none => none) = some q
            rw [hi]
            simp only [ho, if_false]
            exact h
        | succ j =>
          split at h
          · rename_i ho
            have hmin' : ∀ k, k < n → endGo l k i.a.toNat ≠ some q := fun k hk hq => hmin (k + 1) (by omega) (by
              show (match l[p]? with | some i => if i.op = 26 then endGo l k i.a.toNat else some p | none => none) = some q
              rw [hi]
              simp only [ho, if_true]
              exact hq)
            obtain ⟨i', h1, h2⟩ := ih h hmin' j (by omega)
            have e : hop l (j + 1) p = hop l j i.a.toNat := by show (match l[p]? with | some i => hop l j i.a.toNat | none => p) = _; rw [hi]
            rw [e]
            exact ⟨i', h1, fun hl => h2 (by omega)⟩
          · rename_i ho
            exfalso
            refine hmin 1 (by omega) ?_
            show (match l[p]? with | some i => if i.op = 26 then endGo l 0 i.a.toNat else some p | none => none) = some q
            rw [hi]
            simp only [ho, if_false]
            exact h
      · cases h
  have hh := hop_some hm hmin
  have hinj : ∀ a b, a < b → b < m → hop l a p ≠ hop l b p := by
    intro a b hab hb he
    have h1 : endGo l (m - b) (hop l b p) = some q := endGo_hop (by rw [show b + (m - b) = m by omega]; exact hm) (fun j hj => by
      obtain ⟨i, h1, h2⟩ := hh j (by omega); exact ⟨i, h1, fun hl => h2 (by omega)⟩)
    rw [← he] at h1
    -- then from p in fewer steps
    have : ∀ (a : Nat) (p : Nat), (∀ j, j < a → ∃ i, l[hop l j p]? = some i ∧ i.op = 26) → endGo l (m - b) (hop l a p) = some q → endGo l (a + (m - b)) p = some q := by
      intro a
      induction a with
      | zero => intro p _ h; simpa [hop] using h
      | succ a ih =>
        intro p hj h
        obtain ⟨i, hi, ho⟩ := hj 0 (by omega)
        rw [show hop l 0 p = p from rfl] at hi
        have e : ∀ j, hop l (j + 1) p = hop l j i.a.toNat := fun j => by show (match l[p]? with | some i => hop l j i.a.toNat | none => p) = _; rw [hi]
        rw [e] at h
        have := ih i.a.toNat (fun j hj' => by have := hj (j + 1) (by omega); rw [e] at this; exact this) h
        rw [show a + 1 + (m - b) = (a + (m - b)) + 1 by omega]
        unfold endGo
        rw [hi]
        simp only [ho, if_true]
        exact this
    exact hmin (a + (m - b)) (by omega) (this a p (fun j hj => by obtain ⟨i, h1, h2⟩ := hh j (by omega); exact ⟨i, h1, h2 (by omega)⟩) h1)
  have hlt : ∀ j, j < m → hop l j p < l.length := fun j hj => by
    obtain ⟨i, h1, _⟩ := hh j hj
    exact (List.getElem?_eq_some_iff.1 h1).1
  have hle : m ≤ l.length := by
    exact pigeon l.length m (fun j => hop l j p) hlt hinj
  exact endGo_more hm _ hle
theorem endM_lt {l : List InsM} {p : Nat} (hp : p < l.length) : endM l p < l.length := by
  unfold endM
  cases h : endGo l l.length p with
  | none => exact hp
  | some q =>
    obtain ⟨i, hi, _⟩ := endGo_some h
    exact (List.getElem?_eq_some_iff.1 hi).1
def threadM (l : List InsM) : List InsM := l.map (reM fun t => (endM l t.toNat : Nat))
theorem thread_len (l : List InsM) : (threadM l).length = l.length := List.length_map ..
theorem thread_good {l : List InsM} (h : GoodL l) : GoodL (threadM l) := by
  constructor
  · intro i hi t ht
    obtain ⟨j, hj, rfl⟩ := List.mem_map.1 hi
    rw [re_target] at ht
    cases hq : targetM j with
    | none => rw [hq] at ht; cases ht
    | some q =>
      rw [hq] at ht
      injection ht with ht
      have := h.tg j hj q hq
      have := endM_lt (l := l) (p := q.toNat) (by omega)
      rw [thread_len]
      subst ht
      show 0 ≤ ((endM l q.toNat : Nat) : Int) ∧ ((endM l q.toNat : Nat) : Int) < _
      omega
  · obtain ⟨i, h1, h2⟩ := h.last
    refine ⟨reM (fun t => (endM l t.toNat : Nat)) i, ?_, ?_⟩
    · unfold threadM; rw [List.getLast?_map, h1]; rfl
    · unfold isEnd; rw [re_op]; exact h2
theorem thread_at (l : List InsM) (p : Nat) : (threadM l)[p]? = (l[p]?).map (reM fun t => (endM l t.toNat : Nat)) := List.getElem?_map ..
theorem jump_a {i : InsM} {f : Int → Int} (h : i.op = 26) : (reM f i).a = f i.a := by
  unfold reM
  rw [jump_target h]
  have hb : ¬ isB i := by unfold isB; omega
  simp only [aimM, if_neg hb]
/-- Through jumps that were put on: the same end. -/
theorem end_thread {l : List InsM} (h : GoodL l) {p : Nat} (hp : p < l.length) : endM (threadM l) (endM l p) = endM l p := by
  have hl := thread_len l
  have hpos := h.pos
  unfold endM
  cases hq : endGo l l.length p with
  | some q =>
    obtain ⟨i, hi, ho⟩ := endGo_some hq
    have : endGo (threadM l) (threadM l).length q = some q := by
      rw [hl, show l.length = (l.length - 1) + 1 by omega]
      unfold endGo
      rw [thread_at, hi]
      simp only [Option.map_some, re_op, ho, if_false]
    simp only [Option.getD_some, this]
  | none =>
    simp only [Option.getD_none]
    cases hr : endGo (threadM l) (threadM l).length p with
    | none => rfl
    | some r =>
      exfalso
      -- from p on all are jumps that go round, so each jumps to the same place as ahead
      have never : ∀ p, endGo l l.length p = none → ∀ n, endGo l n p = none := fun p hp n => by
        cases hc : endGo l n p with
        | none => rfl
        | some r => rw [endGo_len hc] at hp; cases hp
      have key : ∀ n p, p < l.length → endGo l l.length p = none → endGo (threadM l) n p = none := by
        intro n
        induction n with
        | zero => intro p _ _; rfl
        | succ n ih =>
          intro p hp hn
          obtain ⟨i, hi⟩ : ∃ i, l[p]? = some i := ⟨_, List.getElem?_eq_getElem hp⟩
          have h1 := never p hn 1
          have ho : i.op = 26 := by
            by_cases ho : i.op = 26
            · exact ho
            · have : endGo l 1 p = some p := by
                show (match l[p]? with | some i => if i.op = 26 then endGo l 0 i.a.toNat else some p | none => none) = _
                rw [hi]; simp only [ho, if_false]
              rw [this] at h1; cases h1
          have hb := h.at_ hi (jump_target ho)
          have h2 : endGo l l.length i.a.toNat = none := by
            have := never p hn (l.length + 1)
            unfold endGo at this
            rw [hi] at this
            simpa only [ho, if_true] using this
          unfold endGo
          rw [thread_at, hi]
          simp only [Option.map_some, re_op, ho, if_true, jump_a ho]
          have e : endM l i.a.toNat = i.a.toNat := by unfold endM; rw [h2]; rfl
          rw [e, Int.toNat_natCast]
          exact ih _ (by omega) h2
      rw [key _ p hp hq] at hr
      cases hr
theorem thread_thread {l : List InsM} (h : GoodL l) : threadM (threadM l) = threadM l := by
  apply List.ext_getElem?
  intro p
  rw [thread_at, thread_at]
  cases hi : l[p]? with
  | none => rfl
  | some i =>
    simp only [Option.map_some, Option.some.injEq]
    rw [re_re]
    refine re_congr fun t ht => ?_
    have := h.at_ hi ht
    rw [Int.toNat_natCast]
    have := end_thread h (p := t.toNat) (by omega)
    omega
/-! ### what can be come to -/
def nextM (i : InsM) (p : Nat) : List Nat := (match targetM i with | some t => [t.toNat] | none => []) ++ (if isEnd i then [] else [p + 1])
inductive Reach (l : List InsM) : Nat → Prop
  | zero : Reach l 0
  | step {p q : Nat} {i : InsM} : Reach l p → l[p]? = some i → q ∈ nextM i p → Reach l q
theorem next_lt {l : List InsM} (h : GoodL l) {p q : Nat} {i : InsM} (hp : l[p]? = some i) (hq : q ∈ nextM i p) : q < l.length := by
  unfold nextM at hq
  rcases List.mem_append.1 hq with hq | hq
  · cases ht : targetM i with
    | none => rw [ht] at hq; cases hq
    | some t =>
      rw [ht] at hq
      have := h.at_ hp ht
      have := List.mem_singleton.1 hq
      omega
  · split at hq
    · cases hq
    · rename_i hn
      have := List.mem_singleton.1 hq
      have := h.mid hp hn
      omega
theorem reach_lt {l : List InsM} (h : GoodL l) {p : Nat} (hr : Reach l p) : p < l.length := by
  cases hr with
  | zero => exact h.pos
  | step _ hp hq => exact next_lt h hp hq
open Classical in
noncomputable def liveM (l : List InsM) : List Bool := (List.range l.length).map fun p => decide (Reach l p)
theorem live_len (l : List InsM) : (liveM l).length = l.length := by simp [liveM]
theorem live_at {l : List InsM} {p : Nat} (hp : p < l.length) : (liveM l)[p]? = some true ↔ Reach l p := by
  simp [liveM, hp]
/-! ### what stays -/
def cnt (s : List Bool) (p : Nat) : Nat := (s.take p).count true
def keepM (l : List InsM) (s : List Bool) : List InsM := (l.zip s).filterMap fun x => if x.2 then some (reM (fun t => (cnt s t.toNat : Nat)) x.1) else none
theorem cnt_zero (s : List Bool) : cnt s 0 = 0 := rfl
theorem cnt_succ (s : List Bool) (p : Nat) : cnt s (p + 1) = cnt s p + (if s[p]? = some true then 1 else 0) := by
  unfold cnt
  rw [List.take_add_one, List.count_append]
  congr 1
  cases h : s[p]? with
  | none => simp
  | some b => cases b <;> simp
theorem cnt_le (s : List Bool) : ∀ {p q : Nat}, p ≤ q → cnt s p ≤ cnt s q := by
  intro p q h
  induction h with
  | refl => exact Nat.le_refl _
  | step _ ih => rw [cnt_succ]; omega
theorem cnt_lt {s : List Bool} {p r q : Nat} (h1 : p ≤ r) (h2 : r < q) (h3 : s[r]? = some true) : cnt s p < cnt s q := by
  have := cnt_le s h1
  have := cnt_le s (show r + 1 ≤ q by omega)
  rw [cnt_succ, if_pos h3] at this
  omega
theorem cnt_bound (s : List Bool) (p : Nat) : cnt s p ≤ p := by
  induction p with
  | zero => simp [cnt_zero]
  | succ p ih => rw [cnt_succ]; split <;> omega
theorem keep_take (l : List InsM) (s : List Bool) (f : Int → Int) : ∀ p, ((((l.zip s).take p).filterMap fun x => if x.2 then some (reM f x.1) else none)).length ≤ cnt s p
  | 0 => by simp
  | p + 1 => by
    rw [List.take_add_one, List.filterMap_append, List.length_append, cnt_succ]
    have := keep_take l s f p
    cases h : (l.zip s)[p]? with
    | none => simp; omega
    | some x =>
      obtain ⟨i, b⟩ := x
      rw [List.getElem?_zip_eq_some] at h
      rw [h.2]
      cases b <;> simp <;> omega
theorem keep_take_eq {l : List InsM} {s : List Bool} (hs : s.length = l.length) (f : Int → Int) : ∀ p, ((((l.zip s).take p).filterMap fun x => if x.2 then some (reM f x.1) else none)).length = cnt s p
  | 0 => by simp [cnt_zero]
  | p + 1 => by
    rw [List.take_add_one, List.filterMap_append, List.length_append, cnt_succ, keep_take_eq hs f p]
    cases h : (l.zip s)[p]? with
    | none =>
      have : ¬ p < l.length := by rw [List.getElem?_eq_none_iff, List.length_zip] at h; omega
      rw [List.getElem?_eq_none (by omega : s.length ≤ p)]; simp
    | some x =>
      obtain ⟨i, b⟩ := x
      rw [List.getElem?_zip_eq_some] at h
      rw [h.2]
      cases b <;> simp
theorem keep_len {l : List InsM} {s : List Bool} (hs : s.length = l.length) : (keepM l s).length = cnt s l.length := by
  have := keep_take_eq hs (fun t => (cnt s t.toNat : Nat)) l.length
  rw [List.take_of_length_le (by rw [List.length_zip]; omega)] at this
  exact this
/-- What stays, at its new place. -/
theorem keep_at {l : List InsM} {s : List Bool} (hs : s.length = l.length) {p : Nat} {i : InsM} (hp : l[p]? = some i) (hk : s[p]? = some true) : (keepM l s)[cnt s p]? = some (reM (fun t => (cnt s t.toNat : Nat)) i) := by
  have hlt : p < l.length := (List.getElem?_eq_some_iff.1 hp).1
  have hz : (l.zip s)[p]? = some (i, true) := by rw [List.getElem?_zip_eq_some]; exact ⟨hp, hk⟩
  have hsplit : l.zip s = (l.zip s).take p ++ (i, true) :: (l.zip s).drop (p + 1) := by
    have hzl : p < (l.zip s).length := (List.getElem?_eq_some_iff.1 hz).1
    have hze : (l.zip s)[p] = (i, true) := (List.getElem?_eq_some_iff.1 hz).2
    rw [← hze, List.getElem_cons_drop]
    exact (List.take_append_drop p _).symm
  unfold keepM
  generalize (fun t : Int => ((cnt s t.toNat : Nat) : Int)) = f
  have hl := keep_take_eq hs f p
  rw [hsplit, List.filterMap_append, List.getElem?_append_right (by rw [hl]; exact Nat.le_refl _), hl, Nat.sub_self]
  simp
/-- Each that stays comes from one. -/
theorem keep_from {l : List InsM} {s : List Bool} (hs : s.length = l.length) {q : Nat} {j : InsM} (hq : (keepM l s)[q]? = some j) : ∃ p i, l[p]? = some i ∧ s[p]? = some true ∧ cnt s p = q ∧ j = reM (fun t => (cnt s t.toNat : Nat)) i := by
  have hql : q < cnt s l.length := by rw [← keep_len hs]; exact (List.getElem?_eq_some_iff.1 hq).1
  -- the place at which the count passes q
  have : ∀ n, q < cnt s n → ∃ p, p < n ∧ s[p]? = some true ∧ cnt s p = q := by
    intro n
    induction n with
    | zero => intro h; rw [cnt_zero] at h; omega
    | succ n ih =>
      intro h
      rw [cnt_succ] at h
      by_cases hb : s[n]? = some true
      · rw [if_pos hb] at h
        rcases Nat.lt_or_ge q (cnt s n) with h1 | h1
        · obtain ⟨p, h2, h3⟩ := ih h1; exact ⟨p, by omega, h3⟩
        · exact ⟨n, by omega, hb, by omega⟩
      · rw [if_neg hb] at h
        obtain ⟨p, h2, h3⟩ := ih (by omega); exact ⟨p, by omega, h3⟩
  obtain ⟨p, h1, h2, h3⟩ := this _ hql
  obtain ⟨i, hi⟩ : ∃ i, l[p]? = some i := ⟨_, List.getElem?_eq_getElem h1⟩
  refine ⟨p, i, hi, h2, h3, ?_⟩
  have := keep_at hs hi h2
  rw [h3, hq] at this
  injection this
/-- A choice of what stays that leaves a function whole. -/
structure KeepOk (l : List InsM) (s : List Bool) : Prop where
  len : s.length = l.length
  tg : ∀ (p : Nat) (i : InsM) (t : Int), l[p]? = some i → s[p]? = some true → targetM i = some t → ∃ r : Nat, t.toNat ≤ r ∧ r < l.length ∧ s[r]? = some true
  last : ∃ (p : Nat) (i : InsM), l[p]? = some i ∧ s[p]? = some true ∧ isEnd i ∧ ∀ r : Nat, p < r → s[r]? ≠ some true
theorem keep_good {l : List InsM} {s : List Bool} (h : KeepOk l s) : GoodL (keepM l s) := by
  constructor
  · intro j hj t ht
    obtain ⟨q, hq⟩ := List.getElem?_of_mem hj
    obtain ⟨p, i, h1, h2, h3, rfl⟩ := keep_from h.len hq
    rw [re_target] at ht
    cases hx : targetM i with
    | none => rw [hx] at ht; cases ht
    | some x =>
      rw [hx] at ht
      injection ht with ht
      obtain ⟨r, h4, h5, h6⟩ := h.tg p i x h1 h2 hx
      have := cnt_lt h4 h5 h6
      have ht : ((cnt s x.toNat : Nat) : Int) = t := ht
      rw [keep_len h.len]
      omega
  · obtain ⟨p, i, h1, h2, h3, h4⟩ := h.last
    refine ⟨reM (fun t => (cnt s t.toNat : Nat)) i, ?_, ?_⟩
    · have hlt : p < l.length := (List.getElem?_eq_some_iff.1 h1).1
      have hc : cnt s l.length = cnt s p + 1 := by
        have : ∀ n, p < n → cnt s n = cnt s p + 1 := by
          intro n hn
          induction hn with
          | refl => rw [cnt_succ, if_pos h2]
          | @step m hm ih => rw [cnt_succ, ih, if_neg (h4 m hm)]
        exact this _ hlt
      rw [List.getLast?_eq_getElem?, keep_len h.len, hc, Nat.add_sub_cancel]
      exact keep_at h.len h1 h2
    · unfold isEnd; rw [re_op]; exact h3
theorem cnt_all {s : List Bool} {n : Nat} (h : cnt s n = n) : ∀ p, p ≤ n → cnt s p = p := by
  intro p hp
  have h1 := cnt_bound s p
  have : ∀ k, cnt s (p + k) ≤ cnt s p + k := by
    intro k
    induction k with
    | zero => simp
    | succ k ih => rw [← Nat.add_assoc, cnt_succ]; split <;> omega
  have := this (n - p)
  rw [show p + (n - p) = n by omega, h] at this
  omega
/-- If nothing goes, all is as it was. -/
theorem keep_id {l : List InsM} {s : List Bool} (hs : s.length = l.length) (hg : GoodL l) (h : (keepM l s).length = l.length) : keepM l s = l := by
  rw [keep_len hs] at h
  have hc := cnt_all h
  apply List.ext_getElem?
  intro p
  rcases Nat.lt_or_ge p l.length with hp | hp
  · obtain ⟨i, hi⟩ : ∃ i, l[p]? = some i := ⟨_, List.getElem?_eq_getElem hp⟩
    have hk : s[p]? = some true := by
      have h1 := hc (p + 1) (by omega)
      rw [cnt_succ, hc p (by omega)] at h1
      by_cases hb : s[p]? = some true
      · exact hb
      · rw [if_neg hb] at h1; omega
    have := keep_at hs hi hk
    rw [hc p (by omega)] at this
    rw [this, hi, re_id fun t ht => ?_]
    have := hg.at_ hi ht
    rw [hc _ (by omega)]
    omega
  · rw [List.getElem?_eq_none hp, List.getElem?_eq_none (by rw [keep_len hs, h]; exact hp)]
theorem keep_le {l : List InsM} {s : List Bool} (hs : s.length = l.length) : (keepM l s).length ≤ l.length := by rw [keep_len hs]; exact cnt_bound _ _
/-- The last of the places that stay. -/
theorem last_true (s : List Bool) : ∀ n : Nat, (∃ p : Nat, p < n ∧ s[p]? = some true) → ∃ p : Nat, p < n ∧ s[p]? = some true ∧ ∀ r : Nat, p < r → r < n → s[r]? ≠ some true
  | 0, ⟨p, h, _⟩ => by omega
  | n + 1, ⟨p, h, hp⟩ => by
    by_cases hn : s[n]? = some true
    · exact ⟨n, by omega, hn, fun r h1 h2 => by omega⟩
    · have hpn : p ≠ n := fun e => hn (e ▸ hp)
      obtain ⟨q, h1, h2, h3⟩ := last_true s n ⟨p, by omega, hp⟩
      refine ⟨q, by omega, h2, fun r h4 h5 => ?_⟩
      by_cases hr : r = n
      · rw [hr]; exact hn
      · exact h3 r h4 (by omega)
theorem live_ok {l : List InsM} (h : GoodL l) : KeepOk l (liveM l) := by
  refine ⟨live_len l, fun p i t hp hk ht => ?_, ?_⟩
  · have hlt : p < l.length := (List.getElem?_eq_some_iff.1 hp).1
    have hr := (live_at hlt).1 hk
    have := h.at_ hp ht
    refine ⟨t.toNat, Nat.le_refl _, by omega, (live_at (by omega)).2 (hr.step hp ?_)⟩
    unfold nextM
    rw [ht]
    exact List.mem_append_left _ (List.mem_singleton.2 rfl)
  · obtain ⟨p, h1, h2, h3⟩ := last_true (liveM l) l.length ⟨0, h.pos, (live_at h.pos).2 .zero⟩
    obtain ⟨i, hi⟩ : ∃ i, l[p]? = some i := ⟨_, List.getElem?_eq_getElem h1⟩
    refine ⟨p, i, hi, h2, ?_, fun r hr => ?_⟩
    · by_cases he : isEnd i
      · exact he
      · exfalso
        have hm := h.mid hi he
        refine h3 (p + 1) (by omega) hm ((live_at hm).2 (((live_at h1).1 h2).step hi ?_))
        unfold nextM
        rw [if_neg he]
        exact List.mem_append_right _ (List.mem_singleton.2 rfl)
    · rcases Nat.lt_or_ge r l.length with hl | hl
      · exact h3 r hr hl
      · rw [List.getElem?_eq_none (by rw [live_len]; exact hl)]; simp
def idleM (i : InsM) (p : Nat) : Bool := decide (i.op = 6 ∧ i.a = i.b ∨ i.op = 26 ∧ i.a = (p : Int) + 1)
def stayM (l : List InsM) : List Bool := l.mapIdx fun p i => !idleM i p || decide (p + 1 = l.length)
theorem stay_len (l : List InsM) : (stayM l).length = l.length := by simp [stayM]
theorem stay_at {l : List InsM} {p : Nat} {i : InsM} (hp : l[p]? = some i) : (stayM l)[p]? = some (!idleM i p || decide (p + 1 = l.length)) := by simp [stayM, hp]
theorem stay_ok {l : List InsM} (h : GoodL l) : KeepOk l (stayM l) := by
  obtain ⟨i, h1, h2⟩ := h.last
  have hpos := h.pos
  rw [List.getLast?_eq_getElem?] at h1
  have hl : (stayM l)[l.length - 1]? = some true := by rw [stay_at h1]; simp; omega
  refine ⟨stay_len l, fun p j t hp hk ht => ⟨l.length - 1, ?_, by omega, hl⟩, ⟨l.length - 1, i, h1, hl, h2, fun r hr => ?_⟩⟩
  · have := h.at_ hp ht; omega
  · rw [List.getElem?_eq_none (by rw [stay_len]; omega)]; simp
/-! ### one round, and all of them -/
noncomputable def onceM (l : List InsM) : List InsM := keepM (keepM (threadM l) (liveM (threadM l))) (stayM (keepM (threadM l) (liveM (threadM l))))
theorem once_good {l : List InsM} (h : GoodL l) : GoodL (onceM l) := keep_good (stay_ok (keep_good (live_ok (thread_good h))))
theorem once_le (l : List InsM) : (onceM l).length ≤ l.length := by
  unfold onceM
  have h1 := keep_le (live_len (threadM l))
  have h2 := keep_le (stay_len (keepM (threadM l) (liveM (threadM l))))
  rw [thread_len] at h1
  omega
theorem once_same {l : List InsM} (h : GoodL l) (hl : (onceM l).length = l.length) : onceM l = threadM l := by
  have h1 := keep_le (live_len (threadM l))
  have h2 := keep_le (stay_len (keepM (threadM l) (liveM (threadM l))))
  rw [thread_len] at h1
  have hg := thread_good h
  have e1 : keepM (threadM l) (liveM (threadM l)) = threadM l := keep_id (live_len _) hg (by rw [thread_len]; unfold onceM at hl; omega)
  unfold onceM at hl ⊢
  rw [e1] at hl ⊢
  exact keep_id (stay_len _) hg (by rw [hl, thread_len])
open Classical in
noncomputable def meas (l : List InsM) : Nat := 2 * l.length + (if threadM l = l then 0 else 1)
theorem once_meas {l : List InsM} (h : GoodL l) (hn : onceM l ≠ l) : meas (onceM l) < meas l := by
  have hle := once_le l
  unfold meas
  by_cases hl : (onceM l).length = l.length
  · have he := once_same h hl
    rw [he, thread_thread h, if_pos rfl, thread_len, if_neg (fun e => hn (he.trans e))]
    omega
  · split <;> split <;> omega
open Classical in
noncomputable def fixGo : Nat → List InsM → List InsM
  | 0, l => l
  | n + 1, l => if onceM l = l then l else fixGo n (onceM l)
noncomputable def fixM (l : List InsM) : List InsM := fixGo (meas l + 1) l
theorem fixGo_one {n : Nat} {l : List InsM} (h : onceM l = l) : fixGo n l = l := by
  cases n
  · rfl
  · unfold fixGo; rw [if_pos h]
theorem fixGo_more : ∀ {n m : Nat} {l : List InsM}, GoodL l → meas l < n → meas l < m → fixGo n l = fixGo m l
  | 0, _, _, _, h, _ => by omega
  | _ + 1, 0, _, _, _, h => by omega
  | n + 1, m + 1, l, hg, h1, h2 => by
    unfold fixGo
    by_cases he : onceM l = l
    · rw [if_pos he, if_pos he]
    · rw [if_neg he, if_neg he]
      have := once_meas hg he
      exact fixGo_more (once_good hg) (by omega) (by omega)
theorem fix_step {l : List InsM} (h : GoodL l) (hn : onceM l ≠ l) : fixM (onceM l) = fixM l := by
  have hm := once_meas h hn
  conv => rhs; unfold fixM fixGo
  rw [if_neg hn]
  exact fixGo_more (once_good h) (Nat.lt_succ_self _) hm
theorem fix_end {l : List InsM} (h : onceM l = l) : fixM l = l := fixGo_one h
theorem fix_rec {P : List InsM → Prop} (hs : ∀ l, GoodL l → P l → P (onceM l)) : ∀ (n : Nat) (l : List InsM), meas l ≤ n → GoodL l → P l → P (fixM l) ∧ GoodL (fixM l) ∧ onceM (fixM l) = fixM l
  | n, l, hn, hg, hp => by
    by_cases he : onceM l = l
    · rw [fix_end he]; exact ⟨hp, hg, he⟩
    · have hm := once_meas hg he
      rw [← fix_step hg he]
      exact fix_rec hs (n - 1) _ (by omega) (once_good hg) (hs l hg hp)
  termination_by n => n
  decreasing_by have := once_meas hg he; omega
theorem fix_good {l : List InsM} (h : GoodL l) : GoodL (fixM l) := (fix_rec (P := fun _ => True) (fun _ _ _ => trivial) _ l (Nat.le_refl _) h trivial).2.1
theorem fix_fix {l : List InsM} (h : GoodL l) : fixM (fixM l) = fixM l := fix_end (fix_rec (P := fun _ => True) (fun _ _ _ => trivial) _ l (Nat.le_refl _) h trivial).2.2
theorem fix_le {l : List InsM} (h : GoodL l) : (fixM l).length ≤ l.length := (fix_rec (P := fun m => m.length ≤ l.length) (fun m _ hm => Nat.le_trans (once_le m) hm) _ l (Nat.le_refl _) h (Nat.le_refl _)).1
end Go.Proofs.Ytgonekmmbeedeaa.Sq
namespace Go.Proofs.Ytgonekmmbeedeaa.Sq
open Go.RowKit
set_option linter.unusedVariables false
set_option linter.unusedSimpArgs false

def tgtV (i : InsM) : Value := match targetM i with
  | some t => .tuple #[.int .i64 t, .bool true]
  | none => .tuple #[.int .i64 0, .bool false]
set_option maxRecDepth 20000 in
set_option maxHeartbeats 4000000 in
theorem target_any (w : World) (i : InsM) : Calls Try.prog 58 #[insV i] w fun e w' => e = .returned (tgtV i) ∧ Kp w w' := by
  by_cases h25 : i.op = 25
  · have t25 : (i.op == 25) = true := by simp [h25]
    have HS := hid (show tgtV i = .tuple #[.int .i64 i.a, .bool true] by unfold tgtV targetM; rw [if_pos (show isA i by unfold isA; omega)])
    clear h25
    unfold insV
    go_enter Try.func58, Try.ntmps58
    go_wp2
    go_ret2
    exact ⟨congrArg Ending.returned HS.out.symm, (Kp.refl _).alloc _⟩
  · have t25 : (i.op == 25) = false := by simp [h25]
    by_cases h26 : i.op = 26
    · have t26 : (i.op == 26) = true := by simp [h26]
      have HS := hid (show tgtV i = .tuple #[.int .i64 i.a, .bool true] by unfold tgtV targetM; rw [if_pos (show isA i by unfold isA; omega)])
      clear h25 h26
      unfold insV
      go_enter Try.func58, Try.ntmps58
      go_wp2
      go_ret2
      exact ⟨congrArg Ending.returned HS.out.symm, (Kp.refl _).alloc _⟩
    · have t26 : (i.op == 26) = false := by simp [h26]
      by_cases h36 : i.op = 36
      · have t36 : (i.op == 36) = true := by simp [h36]
        have HS := hid (show tgtV i = .tuple #[.int .i64 i.a, .bool true] by unfold tgtV targetM; rw [if_pos (show isA i by unfold isA; omega)])
        clear h25 h26 h36
        unfold insV
        go_enter Try.func58, Try.ntmps58
        go_wp2
        go_ret2
        exact ⟨congrArg Ending.returned HS.out.symm, (Kp.refl _).alloc _⟩
      · have t36 : (i.op == 36) = false := by simp [h36]
        by_cases h40 : i.op = 40
        · have t40 : (i.op == 40) = true := by simp [h40]
          have HS := hid (show tgtV i = .tuple #[.int .i64 i.a, .bool true] by unfold tgtV targetM; rw [if_pos (show isA i by unfold isA; omega)])
          clear h25 h26 h36 h40
          unfold insV
          go_enter Try.func58, Try.ntmps58
          go_wp2
          go_ret2
          exact ⟨congrArg Ending.returned HS.out.symm, (Kp.refl _).alloc _⟩
        · have t40 : (i.op == 40) = false := by simp [h40]
          by_cases h27 : i.op = 27
          · have t27 : (i.op == 27) = true := by simp [h27]
            have HS := hid (show tgtV i = .tuple #[.int .i64 i.b, .bool true] by unfold tgtV targetM; rw [if_neg (show ¬ isA i by unfold isA; omega), if_pos (show isB i by unfold isB; omega)])
            clear h25 h26 h36 h40 h27
            unfold insV
            go_enter Try.func58, Try.ntmps58
            go_wp2
            go_ret2
            exact ⟨congrArg Ending.returned HS.out.symm, (Kp.refl _).alloc _⟩
          · have t27 : (i.op == 27) = false := by simp [h27]
            by_cases h38 : i.op = 38
            · have t38 : (i.op == 38) = true := by simp [h38]
              have HS := hid (show tgtV i = .tuple #[.int .i64 i.b, .bool true] by unfold tgtV targetM; rw [if_neg (show ¬ isA i by unfold isA; omega), if_pos (show isB i by unfold isB; omega)])
              clear h25 h26 h36 h40 h27 h38
              unfold insV
              go_enter Try.func58, Try.ntmps58
              go_wp2
              go_ret2
              exact ⟨congrArg Ending.returned HS.out.symm, (Kp.refl _).alloc _⟩
            · have t38 : (i.op == 38) = false := by simp [h38]
              have HS := hid (show tgtV i = .tuple #[.int .i64 0, .bool false] by unfold tgtV targetM; rw [if_neg (show ¬ isA i by unfold isA; omega), if_neg (show ¬ isB i by unfold isB; omega)])
              clear h25 h26 h36 h40 h27 h38
              unfold insV
              go_enter Try.func58, Try.ntmps58
              go_wp2
              go_ret2
              exact ⟨congrArg Ending.returned HS.out.symm, (Kp.refl _).alloc _⟩
set_option maxRecDepth 20000 in
set_option maxHeartbeats 4000000 in
theorem aim_any (w : World) (i : InsM) (p : Int) : Calls Try.prog 71 #[insV i, .int .i64 p] w fun e w' => e = .returned (insV (aimM i p)) ∧ Kp w w' := by
  by_cases h27 : i.op = 27
  · have t27 : (i.op == 27) = true := by simp [h27]
    have HS := hid (show insV (aimM i p) = .agg #[.int .i64 i.op, .int .i64 i.a, .int .i64 p, .int .i64 i.c, .int .i64 i.d, .int .i64 i.e] by unfold aimM; rw [if_pos (show isB i by unfold isB; omega)]; rfl)
    clear h27
    generalize insV (aimM i p) = V at HS ⊢
    unfold insV
    go_enter Try.func71, Try.ntmps71
    go_wp2
    exact bodyPost_ret (v := .agg #[.int .i64 i.op, .int .i64 i.a, .int .i64 p, .int .i64 i.c, .int .i64 i.d, .int .i64 i.e]) (by simp [results, Try.results71, go_sem]) rfl ⟨congrArg Ending.returned HS.out.symm, ((Kp.refl _).alloc _).alloc _⟩
  · have t27 : (i.op == 27) = false := by simp [h27]
    by_cases h38 : i.op = 38
    · have t38 : (i.op == 38) = true := by simp [h38]
      have HS := hid (show insV (aimM i p) = .agg #[.int .i64 i.op, .int .i64 i.a, .int .i64 p, .int .i64 i.c, .int .i64 i.d, .int .i64 i.e] by unfold aimM; rw [if_pos (show isB i by unfold isB; omega)]; rfl)
      clear h27 h38
      generalize insV (aimM i p) = V at HS ⊢
      unfold insV
      go_enter Try.func71, Try.ntmps71
      go_wp2
      exact bodyPost_ret (v := .agg #[.int .i64 i.op, .int .i64 i.a, .int .i64 p, .int .i64 i.c, .int .i64 i.d, .int .i64 i.e]) (by simp [results, Try.results71, go_sem]) rfl ⟨congrArg Ending.returned HS.out.symm, ((Kp.refl _).alloc _).alloc _⟩
    · have t38 : (i.op == 38) = false := by simp [h38]
      have HS := hid (show insV (aimM i p) = .agg #[.int .i64 i.op, .int .i64 p, .int .i64 i.b, .int .i64 i.c, .int .i64 i.d, .int .i64 i.e] by unfold aimM; rw [if_neg (show ¬ isB i by unfold isB; omega)]; rfl)
      clear h27 h38
      generalize insV (aimM i p) = V at HS ⊢
      unfold insV
      go_enter Try.func71, Try.ntmps71
      go_wp2
      exact bodyPost_ret (v := .agg #[.int .i64 i.op, .int .i64 p, .int .i64 i.b, .int .i64 i.c, .int .i64 i.d, .int .i64 i.e]) (by simp [results, Try.results71, go_sem]) rfl ⟨congrArg Ending.returned HS.out.symm, ((Kp.refl _).alloc _).alloc _⟩
set_option maxRecDepth 20000 in
set_option maxHeartbeats 4000000 in
theorem idle_any (w : World) (i : InsM) (p : Nat) (hp : p ≤ 100000000) : Calls Try.prog 52 #[insV i, .int .i64 (p : Int)] w fun e w' => e = .returned (.bool (idleM i p)) ∧ Kp w w' := by
  have kw : IntKind.i64.wrap ((p : Int) + 1) = (p : Int) + 1 := IntWalk.i64_in _ (by omega)
  by_cases h6 : i.op = 6
  · have t6 : (i.op == 6) = true := by simp [h6]
    have t26 : (i.op == 26) = false := by simp [h6]
    by_cases hab : i.a = i.b
    · have tab : (i.a == i.b) = true := by simp [hab]
      have HS := hid (show idleM i p = true by unfold idleM; rw [decide_eq_true_iff]; exact .inl ⟨h6, hab⟩)
      clear h6 hab
      unfold insV
      go_enter Try.func52, Try.ntmps52
      go_wp2
      go_ret
      exact ⟨ret_bool HS.out.symm, (Kp.refl _).alloc _⟩
    · have tab : (i.a == i.b) = false := by simp [hab]
      have HS := hid (show idleM i p = false by unfold idleM; rw [decide_eq_false_iff_not]; omega)
      clear h6 hab
      unfold insV
      go_enter Try.func52, Try.ntmps52
      go_wp2
      go_ret
      exact ⟨ret_bool HS.out.symm, (Kp.refl _).alloc _⟩
  · have t6 : (i.op == 6) = false := by simp [h6]
    by_cases h26 : i.op = 26
    · have t26 : (i.op == 26) = true := by simp [h26]
      have HS := hid (show idleM i p = (i.a == (p : Int) + 1) by
        unfold idleM
        by_cases ha : i.a = (p : Int) + 1
        · rw [decide_eq_true_iff.2 (.inr ⟨h26, ha⟩)]; simp [ha]
        · rw [decide_eq_false_iff_not.2 (by omega)]; simp [ha])
      clear h6 h26
      unfold insV
      go_enter Try.func52, Try.ntmps52
      go_wp2
      go_ret
      exact ⟨ret_bool HS.out.symm, (Kp.refl _).alloc _⟩
    · have t26 : (i.op == 26) = false := by simp [h26]
      have HS := hid (show idleM i p = false by unfold idleM; rw [decide_eq_false_iff_not]; omega)
      clear h6 h26
      unfold insV
      go_enter Try.func52, Try.ntmps52
      go_wp2
      go_ret
      exact ⟨ret_bool HS.out.symm, (Kp.refl _).alloc _⟩
/-- end's loop: what is still to do. -/
theorem endGo_step {l : List InsM} {n p : Nat} {i : InsM} (hi : l[p]? = some i) : endGo l (n + 1) p = if i.op = 26 then endGo l n i.a.toNat else some p := by
  conv => lhs; unfold endGo
  rw [hi]
set_option maxRecDepth 20000 in
set_option maxHeartbeats 4000000 in
theorem end_any (w : World) (v : Value) (l : List InsM) (h : RdL CeIns 6 w v l) (hg : GoodL l) (p : Nat) (hp : p < l.length) (hl : l.length ≤ 100000000) : Calls Try.prog 72 #[v, .int .i64 (p : Int)] w fun e w' => e = .returned (.int .i64 (endM l p : Int)) ∧ Kp w w' := by
  obtain ⟨A, c, rfl, _⟩ := h.form
  have H := hid h
  have HG := hid hg
  clear h hg
  go_enter Try.func72, Try.ntmps72
  go_wp2_with fail
  go_loopw [5, 9] (fun a b wr => ∃ (k q : Nat), k ≤ l.length ∧ q < l.length ∧ a = .int .i64 (q : Int) ∧ b = .int .i64 (k : Int) ∧ endM l p = (endGo l (l.length - k) q).getD p ∧ Kp w wr) (fun _ b _ => l.length - (intOf b).toNat)
  case atStart => exact ⟨0, p, Nat.zero_le _, hp, rfl, rfl, rfl, Kp.refl _⟩
  case round =>
    obtain ⟨k, q, hk, hq, rfl, rfl, he, hkp⟩ := hrel
    have HK := hid hkp
    by_cases hlt : k < l.length
    · have i1 : (k : Int) < (l.length : Int) := by omega
      have k1 : IntKind.i64.wrap ((k : Int) + 1) = (k : Int) + 1 := IntWalk.i64_in _ (by omega)
      obtain ⟨i, hi⟩ : ∃ i, l[q]? = some i := ⟨_, List.getElem?_eq_getElem hq⟩
      obtain ⟨b, off, rfl, hb, g0, g1, _⟩ := at_ins (H.out.kp CeIns.kp hkp) hi
      have hq2 : q < l.length := hq
      rw [show l.length - k = (l.length - k - 1) + 1 by omega, endGo_step hi] at he
      by_cases ho : i.op = 26
      · have t1 : (i.op == 26) = true := by simp [ho]
        have t2 : (i.op != 26) = false := by simp [ho]
        rw [if_pos ho] at he
        have hb2 := HG.out.at_ hi (jump_target ho)
        obtain ⟨r, hr⟩ : ∃ r : Nat, i.a = (r : Int) := ⟨i.a.toNat, by omega⟩
        rw [hr] at g1 hb2
        have HE := hid he
        have HR := hid (show r < l.length by omega)
        rw [hr, Int.toNat_natCast] at HE
        clear he hkp ho hb2 hr
        go_wp2
        exact ⟨⟨k + 1, r, hlt, HR.out, rfl, by congr 1, by rw [HE.out, show l.length - (k + 1) = l.length - k - 1 by omega], HK.out⟩, by simp only [intOf, Int.toNat_natCast]; omega⟩
      · have t1 : (i.op == 26) = false := by simp [ho]
        have t2 : (i.op != 26) = true := by simp [ho]
        rw [if_neg ho] at he
        have HE := hid he
        clear he hkp ho
        go_wp2
        go_ret
        exact ⟨by rw [HE.out]; rfl, HK.out⟩
    · have i1 : ¬ (k : Int) < (l.length : Int) := by omega
      rw [show l.length - k = 0 by omega] at he
      have HE := hid he
      clear he hkp
      go_wp2
      go_ret
      exact ⟨by rw [HE.out]; rfl, HK.out⟩
end Go.Proofs.Ytgonekmmbeedeaa.Sq

namespace Go.Proofs.Ytgonekmmbeedeaa.Sq
open Go.RowKit
set_option linter.unusedVariables false
set_option linter.unusedSimpArgs false

/-- A row of instructions that is the call's own. -/
abbrev OIns (w : World) (base : Nat) (v : Value) (l : List InsM) : Prop := OwnL CeIns 6 64 w base v l
set_option maxHeartbeats 1000000 in
theorem clone_cells_ins (A : Option Addr) (n c : Nat) (w : World) (news : List Value) (hl : news.length = n * 6) (hsrc : 0 < n → ∃ ad, A = some ad ∧ ∀ j u, news[j]? = some u → w.cell? (ad.add j) = some u) (h1 : ∀ u ∈ news, u.oneCell' = true) (hb : n * 48 ≤ 140737488355328) :
    Calls Try.prog 31 #[.slice A n c] w fun e w' => (∃ v', e = .returned v' ∧ w'.ownsRow w.heap.size 64 6 v' n news) ∧ Kp w w' := by
  have q22 : ∀ (w : World) (a : Option Addr) (n c n' c' : Nat), (binOp .eql 43 (.slice a n c) (.slice none n' c')).run Try.prog w = .ok (.bool a.isNone) w := fun w a n c n' c' => Lib.run_eql_slice_nil w _ _ a n c n' c' Try.underlying43
  have HS := hid hsrc
  clear hsrc
  cases A with
  | none =>
    have hn : n = 0 := by
      rcases Nat.eq_zero_or_pos n with h | h
      · exact h
      · obtain ⟨_, e, _⟩ := HS.out h; cases e
    subst hn
    obtain rfl : news = [] := List.eq_nil_of_length_eq_zero (by simpa using hl)
    go_enter Try.func31, Try.ntmps31
    go_wp2
    go_ret
    exact ⟨⟨_, rfl, World.ownsRow_nil _ _ _ _⟩, Kp.refl _⟩
  | some ad =>
    have HC : Hid (0 < n → ∃ ad', some ad = some ad' ∧ ∀ j u, news[j]? = some u → (w.alloc (.cells #[] 64)).cell? (ad'.add j) = some u) := hid fun hp => by
      obtain ⟨ad', e, hc⟩ := HS.out hp
      exact ⟨ad', e, fun j u hu => Lib.cell?_alloc_some _ (hc j u hu)⟩
    have HO := hid (World.ownsRow_made w #[] 0 (e := 64) (size := 6) (Nat.le_refl _) (Nat.zero_le _) rfl)
    go_enter Try.func31, Try.ntmps31
    go_wp2_with (at_builtin; go_must (refine app_src elIns rfl (.tmp 5) (.tmp 6) rfl HO.out rfl news _ _ _ rfl hl HC.out h1 (by unfold maxLen; omega) (by omega) (by simp) ?_); intro v1 w1 hown1 hg1 hm1 hb1)
    go_ret
    exact ⟨⟨_, rfl, by simpa using hown1⟩, Below.trans ((Kp.refl _).alloc _) hb1⟩
theorem clone_ins (v : Value) (l : List InsM) (w : World) (h : RdL CeIns 6 w v l) (hl : l.length * 48 ≤ 140737488355328) : Calls Try.prog 31 #[v] w fun e w' => (∃ v', e = .returned v' ∧ OIns w' w.heap.size v' l) ∧ Kp w w' := by
  obtain ⟨A, c, rfl, _⟩ := h.form
  obtain ⟨news, h1, _, h3⟩ := h.src
  refine (clone_cells_ins A l.length c w news h1.len h3 (Chunk.one_ (fun cs a h => ins_one cs a h) h1) hl).mono ?_
  rintro e w' ⟨⟨v', rfl, ho⟩, hk⟩
  exact ⟨⟨v', rfl, news, ho, Chunk.mono (fun _ _ h => CeIns.any h) h1⟩, hk⟩
/-! ### one instruction written -/
theorem OIns.form {w : World} {base : Nat} {v : Value} {l : List InsM} (h : OIns w base v l) : ∃ A c, v = .slice A l.length c := by
  obtain ⟨xs, h1, _⟩ := h; exact own_form h1
theorem OIns.some_ {w : World} {base : Nat} {v : Value} {l : List InsM} (h : OIns w base v l) (hl : 0 < l.length) : ∃ g c, v = .slice (some ⟨g, 0, none⟩) l.length c ∧ l.length ≤ c ∧ base ≤ g ∧ g < w.heap.size := by
  obtain ⟨xs, h1, _⟩ := h
  obtain ⟨g, c, rfl, hc⟩ := rowSome h1 hl
  exact ⟨g, c, rfl, hc, (rowGe h1).1, (rowGe h1).2⟩
theorem OIns.box {w : World} {base g c j k : Nat} {l : List InsM} (h : OIns w base (.slice (some ⟨g, 0, none⟩) l.length c) l) (hj : j < l.length) (hk : k < 6) : ∃ y, w.cell? ⟨g, j * 6 + k, none⟩ = some y ∧ w.frozen? ⟨g, j * 6 + k, none⟩ = false := by
  obtain ⟨xs, h1, _⟩ := h
  have hlt : j * 6 + k < l.length * 6 := by omega
  obtain ⟨h2, h3⟩ := rowAt h1 hlt
  have hx := h1.1
  exact ⟨_, h2.trans (List.getElem?_eq_getElem (by omega)), h3⟩
def put6 (w : World) (g o : Nat) (i : InsM) : World := (((((w.setCell ⟨g, o, none⟩ (.int .i64 i.op)).setCell ⟨g, o + 1, none⟩ (.int .i64 i.a)).setCell ⟨g, o + 2, none⟩ (.int .i64 i.b)).setCell ⟨g, o + 3, none⟩ (.int .i64 i.c)).setCell ⟨g, o + 4, none⟩ (.int .i64 i.d)).setCell ⟨g, o + 5, none⟩ (.int .i64 i.e)
theorem Chunk.set6 {w : World} : ∀ {l : List InsM} {xs : List Value} (j : Nat) (i : InsM), Chunk CeIns 6 w xs l → j < l.length → CeIns w [.int .i64 i.op, .int .i64 i.a, .int .i64 i.b, .int .i64 i.c, .int .i64 i.d, .int .i64 i.e] i →
    Chunk CeIns 6 w ((((((xs.set (j * 6) (.int .i64 i.op)).set (j * 6 + 1) (.int .i64 i.a)).set (j * 6 + 2) (.int .i64 i.b)).set (j * 6 + 3) (.int .i64 i.c)).set (j * 6 + 4) (.int .i64 i.d)).set (j * 6 + 5) (.int .i64 i.e)) (l.set j i)
  | [], _, j, i, _, hj, _ => by simp at hj
  | a :: l, xs, 0, i, h, hj, hi => by
    obtain ⟨cs, r, rfl, h1, h2, h3⟩ := h
    match cs, h1 with
    | [c0, c1, c2, c3, c4, c5], _ => exact ⟨_, r, rfl, rfl, hi, h3⟩
  | a :: l, xs, j + 1, i, h, hj, hi => by
    obtain ⟨cs, r, rfl, h1, h2, h3⟩ := h
    have ih := Chunk.set6 j i h3 (by simpa using hj) hi
    refine ⟨cs, _, ?_, h1, h2, ih⟩
    simp only [Nat.add_mul, Nat.one_mul]
    rw [List.set_append_right _ _ (by omega), List.set_append_right _ _ (by omega), List.set_append_right _ _ (by omega), List.set_append_right _ _ (by omega), List.set_append_right _ _ (by omega), List.set_append_right _ _ (by omega)]
    congr 1
    congr 1
    · congr 1
      · congr 1
        · congr 1
          · congr 1
            · congr 1; omega
            · omega
          · omega
        · omega
      · omega
    · omega
theorem OIns.put {w : World} {base g c j : Nat} {l : List InsM} (h : OIns w base (.slice (some ⟨g, 0, none⟩) l.length c) l) (hj : j < l.length) (i : InsM) (hi : CeIns w [.int .i64 i.op, .int .i64 i.a, .int .i64 i.b, .int .i64 i.c, .int .i64 i.d, .int .i64 i.e] i) : OIns (put6 w g (j * 6) i) base (.slice (some ⟨g, 0, none⟩) l.length c) (l.set j i) := by
  obtain ⟨xs, h1, h2⟩ := h
  refine ⟨_, ?_, (Chunk.set6 j i h2 hj hi).mono (fun _ _ h => CeIns.any h)⟩
  rw [List.length_set]
  unfold put6
  exact rowSet (rowSet (rowSet (rowSet (rowSet (rowSet h1 (by omega) _) (by omega) _) (by omega) _) (by omega) _) (by omega) _) (by omega) _
theorem put6_grown (w : World) (g o : Nat) (i : InsM) : w.grownBy (put6 w g o i) (some g) := by
  unfold put6
  exact (((((grown_setCell _).trans (grown_setCell _)).trans (grown_setCell _)).trans (grown_setCell _)).trans (grown_setCell _)).trans (grown_setCell _)
/-! ### thread -/
def mixM (l : List InsM) (k : Nat) : List InsM := (threadM l).take k ++ l.drop k
theorem mix_len {l : List InsM} {k : Nat} (hk : k ≤ l.length) : (mixM l k).length = l.length := by unfold mixM; rw [List.length_append, List.length_take, List.length_drop, thread_len]; omega
theorem mix_set {l : List InsM} {k : Nat} {i : InsM} (hi : l[k]? = some i) : (mixM l k).set k (reM (fun t => (endM l t.toNat : Nat)) i) = mixM l (k + 1) := by
  have hlt : k < l.length := (List.getElem?_eq_some_iff.1 hi).1
  have hk : (threadM l)[k]? = some (reM (fun t => (endM l t.toNat : Nat)) i) := by rw [thread_at, hi]; rfl
  unfold mixM
  have h1 : ((threadM l).take k).length = k := by rw [List.length_take, thread_len]; omega
  rw [List.set_append_right _ _ (by omega), h1, Nat.sub_self]
  have h2 : l.drop k = i :: l.drop (k + 1) := by rw [List.drop_eq_getElem_cons hlt]; congr 1; rw [List.getElem?_eq_getElem hlt] at hi; injection hi
  rw [h2, List.set_cons_zero, ← take_snoc hk, List.append_assoc]
  rfl
theorem mix_same {l : List InsM} {k : Nat} {i : InsM} (hi : l[k]? = some i) (h : targetM i = none) : mixM l k = mixM l (k + 1) := by
  rw [← mix_set hi]
  have e : reM (fun t => (endM l t.toNat : Nat)) i = i := by unfold reM; rw [h]
  rw [e]
  have hlt : k < l.length := (List.getElem?_eq_some_iff.1 hi).1
  apply List.ext_getElem?
  intro j
  rw [List.getElem?_set]
  split
  · rename_i hj
    subst hj
    rw [if_pos (by rw [mix_len (by omega)]; exact hlt)]
    unfold mixM
    have h1 : ((threadM l).take k).length = k := by rw [List.length_take, thread_len]; omega
    rw [List.getElem?_append_right (by omega), h1, Nat.sub_self, List.getElem?_drop, Nat.add_zero, hi]
  · rfl
theorem ceIns_re {w : World} {i : InsM} {f : Int → Int} (h : CeIns w [.int .i64 i.op, .int .i64 i.a, .int .i64 i.b, .int .i64 i.c, .int .i64 i.d, .int .i64 i.e] i) (hf : ∀ t, targetM i = some t → okI (f t)) : CeIns w [.int .i64 (reM f i).op, .int .i64 (reM f i).a, .int .i64 (reM f i).b, .int .i64 (reM f i).c, .int .i64 (reM f i).d, .int .i64 (reM f i).e] (reM f i) := by
  obtain ⟨_, h0, h1, h2, h3, h4, h5⟩ := h
  refine ⟨rfl, ?_⟩
  unfold reM
  cases ht : targetM i with
  | none => exact ⟨h0, h1, h2, h3, h4, h5⟩
  | some t =>
    have := hf t ht
    show okI (aimM i (f t)).op ∧ _
    unfold aimM
    split
    · exact ⟨h0, h1, this, h3, h4, h5⟩
    · exact ⟨h0, this, h2, h3, h4, h5⟩
theorem okI_nat {n : Nat} (h : n ≤ 100000000) : okI (n : Int) := by unfold okI; omega
set_option maxRecDepth 20000 in
set_option maxHeartbeats 8000000 in
theorem thread_any (w : World) (v : Value) (l : List InsM) (h : RdL CeIns 6 w v l) (hg : GoodL l) (hl : l.length ≤ 2000000) : Calls Try.prog 47 #[v] w fun e w' => (∃ v', e = .returned v' ∧ OIns w' w.heap.size v' (threadM l)) ∧ Kp w w' := by
  obtain ⟨A, cA, rfl, _⟩ := h.form
  have H := hid h
  have HG := hid hg
  have hpos := hg.pos
  have hcl := clone_ins _ l w h (by omega)
  clear h hg
  go_enter Try.func47, Try.ntmps47
  go_wp2_with (go_at_call 31; refine hcl.mono ?_; rintro e w1 ⟨⟨v1, rfl, ho1⟩, hk1⟩; obtain ⟨g, c, rfl, hc, hb1, hb2⟩ := ho1.some_ hpos; have HO1 := hid ho1; have HK1 := hid hk1; have HGB := hid hb1; clear ho1 hk1 hb1 hb2 hcl)
  obtain ⟨B0, hB0⟩ : ∃ B, w.heap.size = B := ⟨_, rfl⟩
  rw [hB0] at HO1 HGB
  go_loopw [12] (fun x wr => ∃ k : Nat, k ≤ l.length ∧ x = .int .i64 (k : Int) ∧ OIns wr B0 (.slice (some ⟨g, 0, none⟩) l.length c) (mixM l k) ∧ Kp w wr) (fun x _ => l.length - (intOf x).toNat)
  case atStart => exact ⟨0, Nat.zero_le _, rfl, by have := HO1.out; unfold mixM; simpa using this, HK1.out⟩
  case round =>
    obtain ⟨k, hk, rfl, hor, hkr⟩ := hrel
    have HOR := hid hor
    have HKR := hid hkr
    by_cases hlt : k < l.length
    · have i1 : (k : Int) < (l.length : Int) := by omega
      have k1 : IntKind.i64.wrap ((k : Int) + 1) = (k : Int) + 1 := IntWalk.i64_in _ (by omega)
      obtain ⟨i, hi⟩ : ∃ i, l[k]? = some i := ⟨_, List.getElem?_eq_getElem hlt⟩
      obtain ⟨b, off, rfl, hb, g0, g1, g2, g3, g4, g5, hoks⟩ := at_ins (H.out.kp CeIns.kp hkr) hi
      have HI := hid hi
      have HOK := hid hoks
      have htg := fun w' => target_any w' i
      unfold tgtV at htg
      clear hor hkr hoks
      cases ht : targetM i with
      | none =>
        rw [ht] at htg
        have HT := hid ht
        clear ht
        unfold insV at htg
        go_wp2_with (go_at_call 58; refine (htg _).mono ?_; rintro e w2 ⟨rfl, hk2⟩)
        have hb3 := (HKR.out.alloc (.cells #[.int .i64 i.op, .int .i64 i.a, .int .i64 i.b, .int .i64 i.c, .int .i64 i.d, .int .i64 i.e] 64)).trans hk2
        exact ⟨⟨k + 1, hlt, by congr 1, by rw [← mix_same HI.out HT.out]; exact (HOR.out.kp CeIns.kp ((Kp.refl _).alloc _)).kp CeIns.kp hk2, hb3⟩, by simp only [intOf, Int.toNat_natCast]; omega⟩
      | some t0 =>
        rw [ht] at htg
        have hb2 := HG.out.at_ hi ht
        obtain ⟨t, rfl⟩ : ∃ t : Nat, t0 = (t : Int) := ⟨t0.toNat, by omega⟩
        have HT := hid ht
        have htl : t < l.length := by omega
        clear ht hb2 hi
        unfold insV at htg
        go_wp2_with (go_at_call 58; refine (htg _).mono ?_; rintro e w2 ⟨rfl, hk2⟩)
        have hk3 := (Kp.refl wr).alloc (.cells #[.int .i64 i.op, .int .i64 i.a, .int .i64 i.b, .int .i64 i.c, .int .i64 i.d, .int .i64 i.e] 64)
        have HBX := hid ((hk2.block _ (blk_lt (blk_new wr _))).trans (blk_new wr (.cells #[.int .i64 i.op, .int .i64 i.a, .int .i64 i.b, .int .i64 i.c, .int .i64 i.d, .int .i64 i.e] 64)))
        have HOR2 := hid ((HOR.out.kp CeIns.kp hk3).kp CeIns.kp hk2)
        have HKR2 := hid ((HKR.out.trans hk3).trans hk2)
        have HRD := hid ((H.out.kp CeIns.kp HKR2.out))
        have HML := hid (mix_len (l := l) (k := k) (by omega))
        have i3 : (0 : Int) ≤ (k : Int) := by omega
        clear hk2 hk3 htg g0 g1 g2 g3 g4 g5
        refine wp_region_last 8 [[], [], [], [], [], [3, 4], [2, 5], [0, 1], [6, 7]] (fun u => Kp w2 u)
          [fun (y : Value) (u : World) => y = (.slice (some ⟨g, 0, none⟩) l.length c : Value),
           fun (y : Value) (u : World) => y = (.int .i64 (k : Int) : Value),
           fun (y : Value) (u : World) => y = (.agg #[.int .i64 i.op, .int .i64 i.a, .int .i64 i.b, .int .i64 i.c, .int .i64 i.d, .int .i64 i.e] : Value),
           fun (y : Value) (u : World) => y = (.slice (some ⟨b, off, none⟩) l.length cA : Value),
           fun (y : Value) (u : World) => y = (.int .i64 (t : Int) : Value),
           fun (y : Value) (u : World) => y = (.int .i64 (endM l t : Int) : Value),
           fun (y : Value) (u : World) => y = (insV (aimM i (endM l t : Int)) : Value),
           fun (y : Value) (u : World) => y = (.pointer (some ⟨g, k * 6, none⟩) : Value)]
          (by kernel_rfl) (by kernel_rfl) (by kernel_rfl) (by kernel_rfl) (by kernel_rfl) (by kernel_rfl) ((Kp.refl _).drew) (fun _ _ hk h => h.trans hk) ⟨fun _ _ _ _ h => h, fun _ _ _ _ h => h, fun _ _ _ _ h => h, fun _ _ _ _ h => h, fun _ _ _ _ h => h, fun _ _ _ _ h => h, fun _ _ _ _ h => h, fun _ _ _ _ h => h, trivial⟩ ⟨?sb0, ?sb1, ?sb2, ?sb3, ?sb4, ?sb5, ?sb6, ?sb7, trivial⟩ ⟨?hEb, trivial⟩
        case sb0 =>
          intro x u hg hd K hK
          clear hd
          refine ⟨?_⟩
          simp only [putsFrom, Act.put, List.setIfInBounds_toArray, List.set_cons_zero, List.set_cons_succ, Nat.reduceAdd] at hK ⊢
          go_simp
          exact hK.out _ _ (Kp.refl _) rfl
        case sb1 =>
          intro x u hg hd K hK
          clear hd
          refine ⟨?_⟩
          simp only [putsFrom, Act.put, List.setIfInBounds_toArray, List.set_cons_zero, List.set_cons_succ, Nat.reduceAdd] at hK ⊢
          go_simp
          exact hK.out _ _ (Kp.refl _) rfl
        case sb2 =>
          intro x u hg hd K hK
          clear hd
          have hbx := (hg.block _ (blk_lt HBX.out)).trans HBX.out
          have q0 := blk_cell (o := 0) (v := .int .i64 i.op) hbx rfl
          have q1 := blk_cell (o := 1) (v := .int .i64 i.a) hbx rfl
          have q2 := blk_cell (o := 2) (v := .int .i64 i.b) hbx rfl
          have q3 := blk_cell (o := 3) (v := .int .i64 i.c) hbx rfl
          have q4 := blk_cell (o := 4) (v := .int .i64 i.d) hbx rfl
          have q5 := blk_cell (o := 5) (v := .int .i64 i.e) hbx rfl
          clear hbx
          refine ⟨?_⟩
          simp only [putsFrom, Act.put, List.setIfInBounds_toArray, List.set_cons_zero, List.set_cons_succ, Nat.reduceAdd] at hK ⊢
          go_simp
          exact hK.out _ _ (Kp.refl _) rfl
        case sb3 =>
          intro x u hg hd K hK
          clear hd
          refine ⟨?_⟩
          simp only [putsFrom, Act.put, List.setIfInBounds_toArray, List.set_cons_zero, List.set_cons_succ, Nat.reduceAdd] at hK ⊢
          go_simp
          exact hK.out _ _ (Kp.refl _) rfl
        case sb4 =>
          intro x u hg hd K hK
          clear hd
          refine ⟨?_⟩
          simp only [putsFrom, Act.put, List.setIfInBounds_toArray, List.set_cons_zero, List.set_cons_succ, Nat.reduceAdd] at hK ⊢
          go_simp
          exact hK.out _ _ (Kp.refl _) rfl
        case sb5 =>
          intro x u hg hd K hK
          have d3 : (x 3) = .slice (some ⟨b, off, none⟩) l.length cA := And.left hd
          have d4 : (x 4) = .int .i64 (t : Int) := And.left (And.right hd)
          clear hd
          refine ⟨?_⟩
          simp only [putsFrom, Act.put, List.setIfInBounds_toArray, List.set_cons_zero, List.set_cons_succ, Nat.reduceAdd, d3, d4] at hK ⊢
          go_simp
          go_at_call 72
          have hc := end_any u _ l (HRD.out.kp CeIns.kp hg) HG.out t htl (by omega)
          refine hc.mono ?_
          clear hc
          rintro e u' ⟨rfl, hk⟩
          dsimp only
          exact hK.out _ _ hk rfl
        case sb6 =>
          intro x u hg hd K hK
          have d2 : (x 2) = .agg #[.int .i64 i.op, .int .i64 i.a, .int .i64 i.b, .int .i64 i.c, .int .i64 i.d, .int .i64 i.e] := And.left hd
          have d5 : (x 5) = .int .i64 (endM l t : Int) := And.left (And.right hd)
          clear hd
          refine ⟨?_⟩
          simp only [putsFrom, Act.put, List.setIfInBounds_toArray, List.set_cons_zero, List.set_cons_succ, Nat.reduceAdd, d2, d5] at hK ⊢
          go_simp
          go_at_call 71
          have hc := aim_any u i (endM l t : Int)
          refine hc.mono ?_
          clear hc
          rintro e u' ⟨rfl, hk⟩
          dsimp only
          exact hK.out _ _ hk rfl
        case sb7 =>
          intro x u hg hd K hK
          have d0 : (x 0) = .slice (some ⟨g, 0, none⟩) l.length c := And.left hd
          have d1 : (x 1) = .int .i64 (k : Int) := And.left (And.right hd)
          clear hd
          refine ⟨?_⟩
          simp only [putsFrom, Act.put, List.setIfInBounds_toArray, List.set_cons_zero, List.set_cons_succ, Nat.reduceAdd, d0, d1] at hK ⊢
          go_simp
          exact hK.out _ _ (Kp.refl _) rfl
        intro x u hg he K hK
        have d0 : (x 0) = .slice (some ⟨g, 0, none⟩) l.length c := And.left he
        have d1 : (x 1) = .int .i64 (k : Int) := And.left (And.right he)
        have d2 : (x 2) = .agg #[.int .i64 i.op, .int .i64 i.a, .int .i64 i.b, .int .i64 i.c, .int .i64 i.d, .int .i64 i.e] := And.left (And.right (And.right he))
        have d3 : (x 3) = .slice (some ⟨b, off, none⟩) l.length cA := And.left (And.right (And.right (And.right he)))
        have d4 : (x 4) = .int .i64 (t : Int) := And.left (And.right (And.right (And.right (And.right he))))
        have d5 : (x 5) = .int .i64 (endM l t : Int) := And.left (And.right (And.right (And.right (And.right (And.right he)))))
        have d6 : (x 6) = insV (aimM i (endM l t : Int)) := And.left (And.right (And.right (And.right (And.right (And.right (And.right he))))))
        have d7 : (x 7) = .pointer (some ⟨g, k * 6, none⟩) := And.left (And.right (And.right (And.right (And.right (And.right (And.right (And.right he)))))))
        clear he
        have HUK := hid hg
        have hou : OIns u B0 (.slice (some ⟨g, 0, none⟩) (mixM l k).length c) (mixM l k) := by rw [HML.out]; exact HOR2.out.kp CeIns.kp hg
        obtain ⟨y0, z0, f0⟩ := hou.box (j := k) (k := 0) (by rw [HML.out]; exact hlt) (by omega)
        obtain ⟨y1, z1, f1⟩ := hou.box (j := k) (k := 1) (by rw [HML.out]; exact hlt) (by omega)
        obtain ⟨y2, z2, f2⟩ := hou.box (j := k) (k := 2) (by rw [HML.out]; exact hlt) (by omega)
        obtain ⟨y3, z3, f3⟩ := hou.box (j := k) (k := 3) (by rw [HML.out]; exact hlt) (by omega)
        obtain ⟨y4, z4, f4⟩ := hou.box (j := k) (k := 4) (by rw [HML.out]; exact hlt) (by omega)
        obtain ⟨y5, z5, f5⟩ := hou.box (j := k) (k := 5) (by rw [HML.out]; exact hlt) (by omega)
        rw [Nat.add_zero] at z0 f0
        have HOU := hid hou
        clear hou
        unfold insV at d6
        refine ⟨?_⟩
        simp only [putsFrom, Act.put, List.setIfInBounds_toArray, List.set_cons_zero, List.set_cons_succ, Nat.reduceAdd, d0, d1, d2, d3, d4, d5, d6, d7] at hK ⊢
        go_simp
        refine hK.out undef _ ⟨?_⟩
        clear hK
        clear d0 d1 d2 d3 d4 d5 d6 d7
        have e1 : reM (fun t => (endM l t.toNat : Nat)) i = aimM i (endM l t : Int) := by unfold reM; rw [HT.out]; simp only [Int.toNat_natCast]
        have HP := hid (HOU.out.put (j := k) (by rw [HML.out]; exact hlt) (aimM i (endM l t : Int)) (by
          rw [← e1]
          refine ceIns_re ⟨rfl, HOK.out⟩ fun t' ht' => okI_nat ?_
          have := HG.out.at_ HI.out ht'
          have := endM_lt (l := l) (p := t'.toNat) (by omega)
          omega))
        rw [← e1, mix_set HI.out, HML.out] at HP
        have HQ := hid (Below.grown (HKR2.out.trans HUK.out) (put6_grown u g (k * 6) (reM (fun t => (endM l t.toNat : Nat)) i)) (HKR2.out.trans HUK.out).le (fun q hq => by injection hq with hq; subst hq; rw [hB0]; exact HGB.out))
        rw [e1] at HP HQ
        unfold put6 at HP HQ
        clear z0 z1 z2 z3 z4 z5 f0 f1 f2 f3 f4 f5 e1
        go_wp2
        exact ⟨⟨k + 1, hlt, by congr 1, HP.out, HQ.out⟩, by simp only [intOf, Int.toNat_natCast]; omega⟩
    · have i1 : ¬ (k : Int) < (l.length : Int) := by omega
      obtain rfl : k = l.length := by omega
      have e : mixM l l.length = threadM l := by unfold mixM; rw [List.drop_length, List.append_nil, ← thread_len l, List.take_length]
      rw [e] at HOR
      clear hor hkr
      go_wp2
      go_ret
      exact ⟨⟨_, rfl, HOR.out⟩, HKR.out⟩
end Go.Proofs.Ytgonekmmbeedeaa.Sq
namespace Go.Proofs.Ytgonekmmbeedeaa.Sq
open Go.RowKit
set_option linter.unusedVariables false
set_option linter.unusedSimpArgs false

def natI (l : List Nat) : List Int := l.map fun q : Nat => (q : Int)
theorem okw (p : Nat) (hp : p ≤ 2000000) : IntKind.i64.wrap ((p : Int) + 1) = (p : Int) + 1 := IntWalk.i64_in _ (by omega)
theorem below_own {w wb w2 w5 : World} (h : Below w.heap.size w2 w5) (hk : Kp w w2) : Kp w w5 := Below.trans hk h
set_option maxRecDepth 20000 in
set_option maxHeartbeats 8000000 in
theorem next_any (w : World) (v : Value) (l : List InsM) (h : RdL CeIns 6 w v l) (p : Nat) (i : InsM) (hi : l[p]? = some i) (hp : p ≤ 2000000) (ht0 : ∀ t, targetM i = some t → 0 ≤ t) : Calls Try.prog 73 #[v, .int .i64 (p : Int)] w fun e w' => (∃ v', e = .returned v' ∧ OwnI w' w.heap.size v' (natI (nextM i p))) ∧ Kp w w' := by
  obtain ⟨A, c, rfl, _⟩ := h.form
  obtain ⟨b, off, rfl, hb, g0, g1, g2, g3, g4, g5, _⟩ := at_ins h hi
  have i0 : (0 : Int) ≤ (p : Int) := by omega
  have i1 : (p : Int) < (l.length : Int) := by have := (List.getElem?_eq_some_iff.1 hi).1; omega
  have k1 := okw p hp
  have htg := fun w' => target_any w' i
  unfold tgtV at htg
  clear h
  by_cases h26 : i.op = 26
  · have t26 : (i.op == 26) = true := by simp [h26]
    have s26 : (i.op != 26) = false := by simp [h26]
    have ht := jump_target h26
    obtain ⟨t, hta⟩ : ∃ t : Nat, i.a = (t : Int) := ⟨i.a.toNat, by have := ht0 _ ht; omega⟩
    rw [hta] at ht
    rw [ht] at htg
    have HN := hid (show natI (nextM i p) = [(t : Int)] by unfold nextM; rw [ht, if_pos (show isEnd i by unfold isEnd; omega)]; rfl)
    clear ht ht0 hta hi h26
    unfold insV at htg
    rw [HN.out]
    go_enter Try.func73, Try.ntmps73
    go_wp2_with first | (go_at_call 58; refine (htg _).mono ?_; rintro e w2 ⟨rfl, hk2⟩; have HK2 := hid (((Kp.refl w).alloc _).trans hk2); have HBX := hid ((hk2.block _ (blk_lt (blk_new w _))).trans (blk_new w (.cells #[.int .i64 i.op, .int .i64 i.a, .int .i64 i.b, .int .i64 i.c, .int .i64 i.d, .int .i64 i.e] 64))); have z2 := blk_cell (o := 0) (v := .int .i64 i.op) HBX.out rfl; clear hk2) | (at_builtin; go_must (refine app_lit elInt rfl (.tmp 19) (.tmp 21) rfl (base := w.heap.size) (World.ownsRow_nil _ _ _ _) rfl #[.int .i64 (t : Int)] _ 1 1 rfl rfl (by intro u hu; simp at hu; subst hu; rfl) (by decide) (by decide) HK2.out.le ?_); intro v5 w5 o5 g5 _ _ b5; obtain ⟨A5, c5, rfl⟩ := own_form o5; have HO5 := hid o5; have HB5 := hid b5; have HBY := hid (((grown_none g5).block _ (blk_lt HBX.out)).trans HBX.out); have z5 := blk_cell (o := 0) (v := .int .i64 i.op) HBY.out rfl; clear o5 g5 b5)
    go_ret
    exact ⟨⟨_, rfl, HO5.out⟩, Below.trans HK2.out HB5.out⟩
  · have t26 : (i.op == 26) = false := by simp [h26]
    have s26 : (i.op != 26) = true := by simp [h26]
    by_cases h29 : i.op = 29
    · have t29 : (i.op == 29) = true := by simp [h29]
      have s29 : (i.op != 29) = false := by simp [h29]
      have ht : targetM i = none := by unfold targetM; rw [if_neg (show ¬ isA i by unfold isA; omega), if_neg (show ¬ isB i by unfold isB; omega)]
      rw [ht] at htg
      have HN := hid (show natI (nextM i p) = [] by unfold nextM; rw [ht, if_pos (show isEnd i by unfold isEnd; omega)]; rfl)
      clear ht ht0 hi h29
      unfold insV at htg
      rw [HN.out]
      go_enter Try.func73, Try.ntmps73
      go_wp2_with first | (go_at_call 58; refine (htg _).mono ?_; rintro e w2 ⟨rfl, hk2⟩; have HK2 := hid (((Kp.refl w).alloc _).trans hk2); have HBX := hid ((hk2.block _ (blk_lt (blk_new w _))).trans (blk_new w (.cells #[.int .i64 i.op, .int .i64 i.a, .int .i64 i.b, .int .i64 i.c, .int .i64 i.d, .int .i64 i.e] 64))); have z2 := blk_cell (o := 0) (v := .int .i64 i.op) HBX.out rfl; clear hk2)
      go_ret
      exact ⟨⟨_, rfl, World.ownsRow_nil _ _ _ _⟩, HK2.out⟩
    · have t29 : (i.op == 29) = false := by simp [h29]
      have s29 : (i.op != 29) = true := by simp [h29]
      by_cases h30 : i.op = 30
      · have t30 : (i.op == 30) = true := by simp [h30]
        have s30 : (i.op != 30) = false := by simp [h30]
        have ht : targetM i = none := by unfold targetM; rw [if_neg (show ¬ isA i by unfold isA; omega), if_neg (show ¬ isB i by unfold isB; omega)]
        rw [ht] at htg
        have HN := hid (show natI (nextM i p) = [] by unfold nextM; rw [ht, if_pos (show isEnd i by unfold isEnd; omega)]; rfl)
        clear ht ht0 hi h30
        unfold insV at htg
        rw [HN.out]
        go_enter Try.func73, Try.ntmps73
        go_wp2_with first | (go_at_call 58; refine (htg _).mono ?_; rintro e w2 ⟨rfl, hk2⟩; have HK2 := hid (((Kp.refl w).alloc _).trans hk2); have HBX := hid ((hk2.block _ (blk_lt (blk_new w _))).trans (blk_new w (.cells #[.int .i64 i.op, .int .i64 i.a, .int .i64 i.b, .int .i64 i.c, .int .i64 i.d, .int .i64 i.e] 64))); have z2 := blk_cell (o := 0) (v := .int .i64 i.op) HBX.out rfl; clear hk2)
        go_ret
        exact ⟨⟨_, rfl, World.ownsRow_nil _ _ _ _⟩, HK2.out⟩
      · have t30 : (i.op == 30) = false := by simp [h30]
        have s30 : (i.op != 30) = true := by simp [h30]
        cases ht : targetM i with
        | none =>
          rw [ht] at htg
          have HN := hid (show natI (nextM i p) = [(p : Int) + 1] by unfold nextM; rw [ht, if_neg (show ¬ isEnd i by unfold isEnd; omega)]; rfl)
          clear ht ht0 hi h26 h29 h30
          unfold insV at htg
          rw [HN.out]
          go_enter Try.func73, Try.ntmps73
          go_wp2_with first | (go_at_call 58; refine (htg _).mono ?_; rintro e w2 ⟨rfl, hk2⟩; have HK2 := hid (((Kp.refl w).alloc _).trans hk2); have HBX := hid ((hk2.block _ (blk_lt (blk_new w _))).trans (blk_new w (.cells #[.int .i64 i.op, .int .i64 i.a, .int .i64 i.b, .int .i64 i.c, .int .i64 i.d, .int .i64 i.e] 64))); have z2 := blk_cell (o := 0) (v := .int .i64 i.op) HBX.out rfl; clear hk2) | (at_builtin; go_must (refine app_lit elInt rfl (.tmp 36) (.tmp 39) rfl (base := w.heap.size) (World.ownsRow_nil _ _ _ _) rfl #[.int .i64 ((p : Int) + 1)] _ 1 1 rfl rfl (by intro u hu; simp at hu; subst hu; rfl) (by decide) (by decide) HK2.out.le ?_); intro v6 w6 o6 g6 _ _ b6; obtain ⟨A6, c6, rfl⟩ := own_form o6; have HO6 := hid o6; have HB6 := hid b6; clear o6 g6 b6)
          go_ret
          exact ⟨⟨_, rfl, HO6.out⟩, Below.trans (HK2.out) HB6.out⟩
        | some t0 =>
          obtain ⟨t, rfl⟩ : ∃ t : Nat, t0 = (t : Int) := ⟨t0.toNat, by have := ht0 _ ht; omega⟩
          rw [ht] at htg
          have HN := hid (show natI (nextM i p) = [(t : Int), (p : Int) + 1] by unfold nextM; rw [ht, if_neg (show ¬ isEnd i by unfold isEnd; omega)]; rfl)
          clear ht ht0 hi h26 h29 h30
          unfold insV at htg
          rw [HN.out]
          go_enter Try.func73, Try.ntmps73
          go_wp2_with first | (go_at_call 58; refine (htg _).mono ?_; rintro e w2 ⟨rfl, hk2⟩; have HK2 := hid (((Kp.refl w).alloc _).trans hk2); have HBX := hid ((hk2.block _ (blk_lt (blk_new w _))).trans (blk_new w (.cells #[.int .i64 i.op, .int .i64 i.a, .int .i64 i.b, .int .i64 i.c, .int .i64 i.d, .int .i64 i.e] 64))); have z2 := blk_cell (o := 0) (v := .int .i64 i.op) HBX.out rfl; clear hk2) | (have _t := HO5; at_builtin; go_must (refine app_lit elInt rfl (.tmp 36) (.tmp 39) rfl (base := w.heap.size) HO5.out rfl #[.int .i64 ((p : Int) + 1)] _ 1 1 rfl rfl (by intro u hu; simp at hu; subst hu; rfl) (by decide) (by decide) (Nat.le_trans HK2.out.le (by simpa using HB5.out.size)) ?_); intro v6 w6 o6 g6 _ _ b6; obtain ⟨A6, c6, rfl⟩ := own_form o6; have HO6 := hid o6; have HB6 := hid b6; clear o6 g6 b6) | (at_builtin; go_must (refine app_lit elInt rfl (.tmp 19) (.tmp 21) rfl (base := w.heap.size) (World.ownsRow_nil _ _ _ _) rfl #[.int .i64 (t : Int)] _ 1 1 rfl rfl (by intro u hu; simp at hu; subst hu; rfl) (by decide) (by decide) HK2.out.le ?_); intro v5 w5 o5 g5 _ _ b5; obtain ⟨A5, c5, rfl⟩ := own_form o5; have HO5 := hid o5; have HB5 := hid b5; have HBY := hid (((grown_none g5).block _ (blk_lt HBX.out)).trans HBX.out); have z5 := blk_cell (o := 0) (v := .int .i64 i.op) HBY.out rfl; clear o5 g5 b5)
          go_ret
          exact ⟨⟨_, rfl, HO6.out⟩, Below.trans (Below.trans HK2.out HB5.out) HB6.out⟩
/-! ### live -/
/-- A row of bools that is the call's own. -/
def OBl (w : World) (base : Nat) (v : Value) (bs : List Bool) : Prop := w.ownsRow base 4 1 v bs.length (bs.map Value.bool)
theorem elBool : El Try.prog 98 4 (.bool false) 1 1 := El.mk_ Try.underlying98 (by kernel_rfl) rfl (by omega)
theorem OBl.kp {w w' : World} {base : Nat} {v : Value} {bs : List Bool} (h : OBl w base v bs) (hk : Kp w w') : OBl w' base v bs := ownsRow_keep h hk
/-- A row of places. -/
def OwnN (w : World) (base : Nat) (v : Value) (l : List Nat) : Prop := w.ownsRow base 3 1 v l.length (l.map fun q : Nat => Value.int .i64 (q : Int))
theorem own_nat {w : World} {base : Nat} {v : Value} {l : List Nat} (h : OwnI w base v (natI l)) : OwnN w base v l := by
  unfold OwnI natI at h
  rw [List.map_map, List.length_map] at h
  exact h
theorem OBl.at_ {w : World} {base g c j : Nat} {bs : List Bool} {b : Bool} (h : OBl w base (.slice (some ⟨g, 0, none⟩) bs.length c) bs) (hj : bs[j]? = some b) : w.cell? ⟨g, j, none⟩ = some (.bool b) ∧ w.frozen? ⟨g, j, none⟩ = false := by
  have hlt : j < bs.length := (List.getElem?_eq_some_iff.1 hj).1
  obtain ⟨h1, h2⟩ := rowAt h (j := j) (by omega)
  exact ⟨by rw [h1, List.getElem?_map, hj]; rfl, h2⟩
theorem OBl.set {w : World} {base g c j : Nat} {bs : List Bool} (h : OBl w base (.slice (some ⟨g, 0, none⟩) bs.length c) bs) (hj : j < bs.length) (b : Bool) : OBl (w.setCell ⟨g, j, none⟩ (.bool b)) base (.slice (some ⟨g, 0, none⟩) bs.length c) (bs.set j b) := by
  have := rowSet h (j := j) (by omega) (.bool b)
  unfold OBl
  rw [List.length_set, List.map_set]; exact this
theorem OBl.made (w : World) (n : Nat) (hn : n ≤ maxLen) : OBl (w.alloc (.cells (madeCells #[.bool false] n) 4)) w.heap.size (.slice (some ⟨w.heap.size, 0, none⟩) n n) (List.replicate n false) := by
  have e : madeCells #[.bool false] n = (List.replicate n (Value.bool false)).toArray := by
    apply Array.ext
    · simp [madeCells]
    · intro i h1 h2
      simp [madeCells, Nat.mod_one]
  rw [e]
  refine ⟨by simp, .inr ⟨w.heap.size, n, (List.replicate n (Value.bool false)).toArray, by rw [List.length_replicate], Nat.le_refl _, blk_new w _, by simp, hn, by simp, by simp⟩⟩
def trueAt (w : World) (a : Addr) : Bool := match w.cell? a with | some (.bool b) => b | _ => false
/-- How many cells of a row of bools are not set. -/
def fal (w : World) (g n : Nat) : Nat := ((List.range n).filter fun k => !trueAt w ⟨g, k, none⟩).length
def cntF (S : List Bool) : Nat := S.count false
theorem fal_go (w : World) (g : Nat) (S : List Bool) (h : ∀ j b, S[j]? = some b → w.cell? ⟨g, j, none⟩ = some (.bool b)) : ∀ n, n ≤ S.length → fal w g n = cntF (S.take n)
  | 0, _ => by simp [fal, cntF]
  | n + 1, hn => by
    have ih := fal_go w g S h n (by omega)
    obtain ⟨b, hb⟩ : ∃ b, S[n]? = some b := ⟨_, List.getElem?_eq_getElem (by omega)⟩
    unfold fal cntF at *
    rw [List.range_succ, List.filter_append, List.length_append, ih, List.take_add_one, List.count_append, hb]
    congr 1
    have : trueAt w ⟨g, n, none⟩ = b := by unfold trueAt; rw [h n b hb]
    cases b <;> simp [this]
theorem OBl.fal_ {w : World} {base g c : Nat} {bs : List Bool} (h : OBl w base (.slice (some ⟨g, 0, none⟩) bs.length c) bs) : fal w g bs.length = cntF bs := by
  rw [fal_go w g bs (fun j b hj => (h.at_ hj).1) _ (Nat.le_refl _), List.take_length]
theorem cntF_set {S : List Bool} {j : Nat} (h : S[j]? = some false) : cntF (S.set j true) + 1 = cntF S := by
  unfold cntF
  have hlt : j < S.length := (List.getElem?_eq_some_iff.1 h).1
  have h1 : S = S.take j ++ false :: S.drop (j + 1) := by
    have : S[j] = false := (List.getElem?_eq_some_iff.1 h).2
    rw [← this, List.getElem_cons_drop, List.take_append_drop]
  have h2 : S.set j true = S.take j ++ true :: S.drop (j + 1) := by
    conv => lhs; rw [h1]
    rw [List.set_append_right _ _ (by rw [List.length_take]; omega), List.length_take, Nat.min_eq_left (by omega), Nat.sub_self, List.set_cons_zero]
  conv => rhs; rw [h1]
  rw [h2, List.count_append, List.count_append]
  simp; omega
/-- What stands at the loop's head: the places that are marked, those that are still to be looked at; pend: one that is being looked at. -/
structure LiveSt (l : List InsM) (S : List Bool) (work : List Nat) (pend : Option Nat) : Prop where
  len : S.length = l.length
  zero : S[0]? = some true
  rch : ∀ p, S[p]? = some true → Reach l p
  wkS : ∀ p ∈ work, S[p]? = some true
  cl : ∀ (p : Nat) (i : InsM), S[p]? = some true → l[p]? = some i → p ∈ work ∨ some p = pend ∨ ∀ q ∈ nextM i p, S[q]? = some true
theorem LiveSt.start {l : List InsM} (h : GoodL l) : LiveSt l ((List.replicate l.length false).set 0 true) [0] none := by
  have hp := h.pos
  have key : ∀ p, ((List.replicate l.length false).set 0 true)[p]? = some true → p = 0 := fun p hp => by
    rw [List.getElem?_set] at hp
    split at hp
    · rename_i h; exact h.symm
    · rw [List.getElem?_replicate] at hp
      split at hp <;> cases hp
  refine ⟨by simp, by simp [hp], fun p hp => by rw [key p hp]; exact .zero, fun p hp' => ?_, fun p i hp _ => .inl (by rw [key p hp]; exact List.mem_singleton.2 rfl)⟩
  rw [List.mem_singleton.1 hp']; simp [hp]
theorem LiveSt.pop {l : List InsM} {S : List Bool} {work : List Nat} {p : Nat} (h : LiveSt l S (work ++ [p]) none) : LiveSt l S work (some p) ∧ S[p]? = some true :=
  ⟨⟨h.len, h.zero, h.rch, fun q hq => h.wkS q (List.mem_append_left _ hq), fun q i hq hi => by
    rcases h.cl q i hq hi with h1 | h1 | h1
    · rcases List.mem_append.1 h1 with h1 | h1
      · exact .inl h1
      · exact .inr (.inl (by rw [List.mem_singleton.1 h1]))
    · cases h1
    · exact .inr (.inr h1)⟩, h.wkS p (List.mem_append_right _ (List.mem_singleton.2 rfl))⟩
theorem LiveSt.push {l : List InsM} {S : List Bool} {work : List Nat} {p q : Nat} {i : InsM} (h : LiveSt l S work (some p)) (hp : S[p]? = some true) (hi : l[p]? = some i) (hq : q ∈ nextM i p) (hn : S[q]? = some false) : LiveSt l (S.set q true) (work ++ [q]) (some p) := by
  have hlt : q < S.length := (List.getElem?_eq_some_iff.1 hn).1
  have hm : ∀ r, S[r]? = some true → (S.set q true)[r]? = some true := fun r hr => by
    rw [List.getElem?_set]; split
    · rename_i e; subst e; simp [hlt]
    · exact hr
  have hm2 : ∀ r, (S.set q true)[r]? = some true → r = q ∨ S[r]? = some true := fun r hr => by
    rw [List.getElem?_set] at hr; split at hr
    · rename_i e; exact .inl e.symm
    · exact .inr hr
  refine ⟨by rw [List.length_set]; exact h.len, hm _ h.zero, fun r hr => ?_, fun r hr => ?_, fun r j hr hj => ?_⟩
  · rcases hm2 r hr with rfl | hr
    · exact (h.rch p hp).step hi hq
    · exact h.rch r hr
  · rcases List.mem_append.1 hr with hr | hr
    · exact hm _ (h.wkS r hr)
    · rw [List.mem_singleton.1 hr, List.getElem?_set]; simp [hlt]
  · rcases hm2 r hr with rfl | hr
    · exact .inl (List.mem_append_right _ (List.mem_singleton.2 rfl))
    · rcases h.cl r j hr hj with h1 | h1 | h1
      · exact .inl (List.mem_append_left _ h1)
      · exact .inr (.inl h1)
      · exact .inr (.inr fun q hq => hm _ (h1 q hq))
theorem LiveSt.shut {l : List InsM} {S : List Bool} {work : List Nat} {p : Nat} {i : InsM} (h : LiveSt l S work (some p)) (hi : l[p]? = some i) (hd : ∀ q ∈ nextM i p, S[q]? = some true) : LiveSt l S work none :=
  ⟨h.len, h.zero, h.rch, h.wkS, fun r j hr hj => by
    rcases h.cl r j hr hj with h1 | h1 | h1
    · exact .inl h1
    · injection h1 with h1
      subst h1
      rw [hi] at hj; injection hj with hj; subst hj
      exact .inr (.inr hd)
    · exact .inr (.inr h1)⟩
theorem LiveSt.done {l : List InsM} {S : List Bool} (h : LiveSt l S [] none) (hg : GoodL l) : S = liveM l := by
  have hr : ∀ p, Reach l p → S[p]? = some true := fun p hp => by
    induction hp with
    | zero => exact h.zero
    | @step p q i _ hi hq ih =>
      rcases h.cl p i ih hi with h1 | h1 | h1
      · cases h1
      · cases h1
      · exact h1 q hq
  apply List.ext_getElem?
  intro p
  rcases Nat.lt_or_ge p l.length with hp | hp
  · by_cases hx : Reach l p
    · rw [hr p hx, (live_at hp).2 hx]
    · have h1 : S[p]? = some false := by
        obtain ⟨b, hb⟩ : ∃ b, S[p]? = some b := ⟨_, List.getElem?_eq_getElem (by rw [h.len]; exact hp)⟩
        cases b with
        | false => exact hb
        | true => exact absurd (h.rch p hb) hx
      have h2 : (liveM l)[p]? = some false := by
        obtain ⟨b, hb⟩ : ∃ b, (liveM l)[p]? = some b := ⟨_, List.getElem?_eq_getElem (by rw [live_len]; exact hp)⟩
        cases b with
        | false => exact hb
        | true => exact absurd ((live_at hp).1 hb) hx
      rw [h1, h2]
  · rw [List.getElem?_eq_none (by rw [h.len]; exact hp), List.getElem?_eq_none (by rw [live_len]; exact hp)]
theorem nat_last {l : List Nat} (h : 0 < l.length) : ∃ r p, l = r ++ [p] := ⟨l.dropLast, l.getLast (by intro e; subst e; simp at h), (List.dropLast_concat_getLast _).symm⟩
theorem natI_len (l : List Nat) : (natI l).length = l.length := List.length_map ..
theorem natI_at {l : List Nat} {j q : Nat} (h : l[j]? = some q) : ((natI l).map intV)[j]? = some (.int .i64 (q : Int)) := by unfold natI; rw [List.map_map, List.getElem?_map, h]; rfl
theorem next_len (i : InsM) (p : Nat) : (nextM i p).length ≤ 2 := by
  unfold nextM
  rw [List.length_append]
  refine Nat.add_le_add (b := 1) (d := 1) ?_ ?_ <;> split <;> simp
/-- The rows of live: what is marked, what is to be looked at. -/
structure LiveRw (w0 : World) (B sb : Nat) (S : List Bool) (work : List Nat) (v : Value) (wr : World) : Prop where
  row : OBl wr B (.slice (some ⟨sb, 0, none⟩) S.length S.length) S
  wk : OwnN wr B v work
  kp : Below B w0 wr
  ge : B ≤ wr.heap.size
theorem LiveRw.keep {w0 wr w' : World} {B sb : Nat} {S : List Bool} {work : List Nat} {v : Value} (h : LiveRw w0 B sb S work v wr) (hk : Kp wr w') : LiveRw w0 B sb S work v w' := ⟨ownsRow_keep h.row hk, ownsRow_keep h.wk hk, Below.trans h.kp (Below.mono hk h.ge), Nat.le_trans h.ge hk.le⟩
theorem LiveRw.mark {w0 wr : World} {B sb q : Nat} {S : List Bool} {work : List Nat} {v : Value} (h : LiveRw w0 B sb S work v wr) (hq : q < S.length) (hB : B ≤ sb) : LiveRw w0 B sb (S.set q true) work v (wr.setCell ⟨sb, q, none⟩ (.bool true)) := by
  obtain ⟨cs, fr, hb⟩ := rowBlk h.row
  refine ⟨by rw [List.length_set]; exact h.row.set hq true, ?_, h.kp.setCell (p := ⟨sb, q, none⟩) hB _, by simpa [World.setCell] using h.ge⟩
  exact rowOther (by decide) h.wk hb _
theorem LiveRw.app {w0 wr w' : World} {B sb q : Nat} {S : List Bool} {work : List Nat} {v v' : Value} (h : LiveRw w0 B sb S work v wr) (ho : w'.ownsRow B 3 1 v' (work.length + 1) ((work.map fun q : Nat => Value.int .i64 (q : Int)) ++ [.int .i64 (q : Int)])) (hg : wr.grownBy w' v.ownBlock) (hb : Below B wr w') : LiveRw w0 B sb S (work ++ [q]) v' w' := by
  refine ⟨ownsRow_touch (by decide) h.row (Touch.of_grown h.wk hg), ?_, Below.trans h.kp hb, Nat.le_trans h.ge hg.size⟩
  unfold OwnN
  rw [List.map_append, List.length_append]
  exact ho
theorem LiveRw.pop {w0 wr : World} {B sb p c : Nat} {S : List Bool} {work : List Nat} {A : Option Addr} (h : LiveRw w0 B sb S (work ++ [p]) (.slice A (work.length + 1) c) wr) : LiveRw w0 B sb S work (.slice A work.length c) wr := by
  have h1 := h.wk
  unfold OwnN at h1
  rw [List.length_append] at h1
  have h2 := rowTake (k := work.length) h1 (Nat.le_succ _)
  rw [List.map_append, List.take_left' (by simp)] at h2
  exact ⟨h.row, h2, h.kp, h.ge⟩
theorem LiveRw.last {w0 wr : World} {B sb p : Nat} {S : List Bool} {work : List Nat} {v : Value} (h : LiveRw w0 B sb S (work ++ [p]) v wr) : ∃ g c, v = .slice (some ⟨g, 0, none⟩) (work.length + 1) c ∧ work.length + 1 ≤ c ∧ wr.cell? ⟨g, work.length, none⟩ = some (.int .i64 (p : Int)) ∧ g < wr.heap.size := by
  have h1 := h.wk
  unfold OwnN at h1
  rw [List.length_append] at h1
  obtain ⟨g, c, rfl, hc⟩ := rowSome h1 (Nat.succ_pos _)
  refine ⟨g, c, rfl, hc, ?_, (rowGe h1).2⟩
  rw [(rowAt h1 (j := work.length) (by simp)).1, List.map_append, List.getElem?_append_right (by simp)]
  simp
theorem OwnN.at_ {w : World} {base j q : Nat} {v : Value} {l : List Nat} (h : OwnN w base v l) (hj : l[j]? = some q) : ∃ g c, v = .slice (some ⟨g, 0, none⟩) l.length c ∧ w.cell? ⟨g, j, none⟩ = some (.int .i64 (q : Int)) ∧ g < w.heap.size := by
  have hlt : j < l.length := (List.getElem?_eq_some_iff.1 hj).1
  obtain ⟨g, c, rfl, hc⟩ := rowSome h (by omega)
  refine ⟨g, c, rfl, ?_, (rowGe h).2⟩
  rw [(rowAt h (j := j) (by omega)).1, List.getElem?_map, hj]; rfl
/-- Another row of places stands where only a row lies that does not share its block. -/
theorem OwnN.kept {w w' : World} {base : Nat} {v v1 : Value} {l : List Nat} (h : OwnN w base v l) (hg : w.grownBy w' v1.ownBlock) (hs : ∀ g, v.ownBlock = some g → v1.ownBlock ≠ some g) : OwnN w' base v l := by
  refine World.ownsRow.kept h hg ?_
  cases hb : v.ownBlock with
  | none => exact .inl rfl
  | some g => exact .inr fun e => hs g hb e.symm
theorem take_all {N : List Nat} {S : List Bool} {j q : Nat} (h : ∀ r ∈ N.take j, S[r]? = some true) (hq : N[j]? = some q) {S2 : List Bool} (hm : ∀ r : Nat, S[r]? = some true → S2[r]? = some true) (hq2 : S2[q]? = some true) : ∀ r ∈ N.take (j + 1), S2[r]? = some true := fun r hr => by
  rw [← take_snoc hq] at hr
  rcases List.mem_append.1 hr with hr | hr
  · exact hm r (h r hr)
  · rw [List.mem_singleton.1 hr]; exact hq2
theorem set_mono {S : List Bool} {q : Nat} (hq : q < S.length) : (∀ r : Nat, S[r]? = some true → (S.set q true)[r]? = some true) ∧ (S.set q true)[q]? = some true := by
  refine ⟨fun r hr => ?_, by rw [List.getElem?_set]; simp [hq]⟩
  rw [List.getElem?_set]; split
  · rename_i e; subst e; simp [hq]
  · exact hr
def lenS (v : Value) : Nat := match v with | .slice _ n _ => n | _ => 0
/-- The inner loop's head. -/
structure LiveIn (w0 : World) (l : List InsM) (B sb M : Nat) (N : List Nat) (p hb : Nat) (vN : Value) (j : Nat) (S : List Bool) (work : List Nat) (v : Value) (wr : World) : Prop where
  st : LiveSt l S work (some p)
  rw_ : LiveRw w0 B sb S work v wr
  take : ∀ r ∈ N.take j, S[r]? = some true
  me : S[p]? = some true
  row : OwnN wr hb vN N
  sep : ∀ g, vN.ownBlock = some g → v.ownBlock ≠ some g
  big : 2 * cntF S + work.length ≤ M
theorem LiveIn.skip {w0 wr : World} {l : List InsM} {B sb M p hb j q : Nat} {N : List Nat} {vN v : Value} {S : List Bool} {work : List Nat} (h : LiveIn w0 l B sb M N p hb vN j S work v wr) (hq : N[j]? = some q) (hS : S[q]? = some true) : LiveIn w0 l B sb M N p hb vN (j + 1) S work v wr :=
  ⟨h.st, h.rw_, take_all h.take hq (fun _ x => x) hS, h.me, h.row, h.sep, h.big⟩
theorem LiveIn.push {w0 wr w' : World} {l : List InsM} {B sb M p hb j q : Nat} {N : List Nat} {vN v v' : Value} {S : List Bool} {work : List Nat} {i : InsM} (h : LiveIn w0 l B sb M N p hb vN j S work v wr) (hq : N[j]? = some q) (hS : S[q]? = some false) (hi : l[p]? = some i) (hN : q ∈ nextM i p) (hB : B ≤ sb)
    (ho : w'.ownsRow B 3 1 v' (work.length + 1) ((work.map fun q : Nat => Value.int .i64 (q : Int)) ++ [.int .i64 (q : Int)])) (hg : (wr.setCell ⟨sb, q, none⟩ (.bool true)).grownBy w' v.ownBlock) (hm : Moved (wr.setCell ⟨sb, q, none⟩ (.bool true)) v v') (hb' : Below B (wr.setCell ⟨sb, q, none⟩ (.bool true)) w') : LiveIn w0 l B sb M N p hb vN (j + 1) (S.set q true) (work ++ [q]) v' w' := by
  have hlt : q < S.length := (List.getElem?_eq_some_iff.1 hS).1
  have hmo := set_mono hlt
  have hmk := h.rw_.mark hlt hB
  obtain ⟨cs, fr, hbk⟩ := rowBlk h.rw_.row
  have hr1 : OwnN (wr.setCell ⟨sb, q, none⟩ (.bool true)) hb vN N := rowOther (by decide) h.row hbk _
  refine ⟨h.st.push h.me hi hN hS, hmk.app ho hg hb', take_all h.take hq hmo.1 hmo.2, hmo.1 _ h.me, hr1.kept hg h.sep, fun g hgv e => ?_, ?_⟩
  · rcases hm with hm | ⟨k, hk, hk2⟩
    · rw [hm] at e; exact h.sep g hgv e
    · rw [hk] at e; injection e with e
      have := (h.row.lt g hgv).2
      simp [World.setCell] at hk2; omega
  · have := cntF_set hS
    have := h.big
    rw [List.length_append, List.length_singleton]; omega
set_option maxRecDepth 20000 in
set_option maxHeartbeats 8000000 in
theorem live_any (w : World) (v : Value) (l : List InsM) (h : RdL CeIns 6 w v l) (hg : GoodL l) (hl : l.length ≤ 2000000) : Calls Try.prog 48 #[v] w fun e w' => (∃ v', e = .returned v' ∧ OBl w' w.heap.size v' (liveM l)) ∧ Kp w w' := by
  obtain ⟨A, cA, rfl, _⟩ := h.form
  have H := hid h
  have HG := hid hg
  have hpos := hg.pos
  obtain ⟨i0, hT, hi, hz, hz1', hz2, _, _⟩ := elBool
  have hmk : ∀ u : World, (Instr.makeSlice 98 (.int .i64 (l.length : Int)) (.int .i64 (l.length : Int))).run Try.prog u =
      .ok (.slice (some ⟨u.heap.size, 0, none⟩) l.length l.length) (u.alloc (.cells (madeCells #[.bool false] l.length) 4)) := fun u => by
    have h := run_make (P := Try.prog) u 98 4 i0 (.bool false) hT hi hz .i64 .i64 (l.length : Int) (l.length : Int) (by omega) (Int.le_refl _) (by rw [hz2]; omega) (by omega)
    simpa [hz1', Value.cells] using h
  have HB0 := hid (OBl.made w l.length (by unfold maxLen; omega))
  clear h hg hT hi hz hz1' hz2
  go_enter Try.func48, Try.ntmps48
  go_upto_region 3 with fail
  obtain ⟨n0, hn0⟩ : ∃ n, w.heap.size = n := ⟨_, rfl⟩
  have HR0 : Hid (LiveRw w n0 n0 (List.replicate l.length false) [0] (.slice (some ⟨n0 + 1, 0, none⟩) 1 1) ((w.alloc (.cells (madeCells #[.bool false] l.length) 4)).alloc (.cells #[.int .i64 0] 3))) := by
    subst hn0
    refine hid ⟨?_, ?_, ((Kp.refl w).alloc _).alloc _, by simp; omega⟩
    · rw [List.length_replicate]; exact ownsRow_keep HB0.out ((Kp.refl _).alloc _)
    · have hbn := blk_new (w.alloc (.cells (madeCells #[.bool false] l.length) 4)) (.cells #[.int .i64 0] 3)
      rw [World.size_alloc] at hbn
      exact ⟨rfl, .inr ⟨w.heap.size + 1, 1, _, rfl, Nat.le_succ _, hbn, Nat.le_refl _, by decide, rfl, rfl⟩⟩
  have HR1 := hid (HR0.out.mark (q := 0) (by rw [List.length_replicate]; exact hpos) (Nat.le_refl _))
  obtain ⟨z0, f0⟩ := (OBl.at_ (bs := List.replicate l.length false) (j := 0) (b := false) HR0.out.row (by rw [List.getElem?_replicate, if_pos hpos]))
  have i0 : (0 : Int) < (l.length : Int) := by omega
  have hz0 : ((w.alloc (.cells (madeCells #[.bool false] l.length) 4)).alloc (.cells #[.int .i64 0] 3)).heap.size = n0 + 1 + 1 := by simp [hn0]
  generalize ((w.alloc (.cells (madeCells #[.bool false] l.length) 4)).alloc (.cells #[.int .i64 0] 3)) = W at HR0 HR1 z0 f0 hz0 ⊢
  rw [hn0]
  have HST := hid (LiveSt.start HG.out)
  clear hmk HB0 HR0 hz0
  go_wp2_with fail
  go_loopw [4] (fun v4 wr => ∃ (S : List Bool) (work : List Nat) (Aw : Option Addr) (cw : Nat), v4 = .slice Aw work.length cw ∧ LiveSt l S work none ∧ LiveRw w n0 n0 S work (.slice Aw work.length cw) wr ∧ 2 * cntF S + work.length ≤ 2 * l.length + 1) (fun v4 wr => 2 * fal wr n0 l.length + lenS v4)
  case atStart => exact ⟨_, [0], _, _, rfl, HST.out, HR1.out, by have := cntF_set (S := List.replicate l.length false) (j := 0) (by rw [List.getElem?_replicate, if_pos hpos]); have e : cntF (List.replicate l.length false) = l.length := (by unfold cntF; simp); rw [e] at this; simp only [List.length_singleton]; omega⟩
  case round =>
    obtain ⟨S, work, Aw, cw, rfl, hst, hrw, hbd⟩ := hrel
    have hfal : fal wr n0 l.length = cntF S := by have := OBl.fal_ hrw.row; rw [hst.len] at this; exact this
    rcases Nat.eq_zero_or_pos work.length with h0 | h0
    · obtain rfl : work = [] := List.eq_nil_of_length_eq_zero h0
      have HD := hid (LiveSt.done hst HG.out)
      have HRW := hid hrw.row
      have HKP := hid hrw.kp
      rw [hst.len] at HRW
      clear hst hrw h0 hfal
      go_wp2
      go_ret
      exact ⟨⟨_, rfl, by rw [← HD.out]; rw [hn0] at *; exact HRW.out⟩, by have := HKP.out; rw [← hn0] at this; exact this⟩
    · obtain ⟨rest, p, rfl⟩ := nat_last h0
      rw [List.length_append, List.length_singleton] at hrw ⊢
      obtain ⟨g, c, e, hc, zc, hgl⟩ := hrw.last
      cases e
      obtain ⟨hst2, hSp⟩ := hst.pop
      have hrw2 := hrw.pop
      have hpl := reach_lt HG.out (hst2.rch p hSp)
      obtain ⟨i, hi⟩ : ∃ i, l[p]? = some i := ⟨_, List.getElem?_eq_getElem hpl⟩
      have HI := hid hi
      have i2 : (0 : Int) < (rest.length : Int) + 1 := by omega
      have i3 : (rest.length : Int) < (rest.length : Int) + 1 := by omega
      have i4 : (0 : Int) ≤ (rest.length : Int) := by omega
      have w1 : IntKind.i64.wrap ((rest.length : Int) + 1 - 1) = (rest.length : Int) := by
        rw [List.length_append, List.length_singleton] at hbd
        rw [IntWalk.i64_in _ (by omega)]; omega
      have w2 : IntKind.i64.wrap (rest.length : Int) = (rest.length : Int) := by rw [List.length_append, List.length_singleton] at hbd; exact IntWalk.i64_in _ (by omega)
      have cc1 : rest.length ≤ cw := by omega
      have cc2 : (rest.length : Int) ≤ (cw : Int) := by omega
      have HST2 := hid hst2; have HSP := hid hSp; have HRW2 := hid hrw2; have HF := hid hfal
      have HM := hid (show 2 * cntF S + rest.length ≤ 2 * cntF S + rest.length from Nat.le_refl _)
      have HBD := hid (show 2 * cntF S + rest.length + 1 ≤ 2 * l.length + 1 by rw [List.length_append, List.length_singleton] at hbd; omega)
      have HTN := hid (fun q (hq : q ∈ nextM i p) => next_lt HG.out hi hq)
      have hnx := next_any
      obtain ⟨N, hN⟩ : ∃ N, nextM i p = N := ⟨_, rfl⟩
      have HNN := hid hN
      have hnl : N.length ≤ 2 := by rw [← hN]; exact next_len i p
      have hkl := hrw.kp
      have HKL := hid (show Kp w wr by rw [← hn0] at hkl; exact hkl)
      clear hst hrw hst2 hSp hrw2 hi h0 hfal hbd hkl hN hnx
      go_wp2_with (go_at_call 73; refine (next_any _ _ l (H.out.kp CeIns.kp HKL.out) p i HI.out (by omega) (fun t ht => (HG.out.at_ HI.out ht).1)).mono ?_; rintro e w3 ⟨⟨v2, rfl, hv2⟩, hk2⟩; have hv3 := own_nat hv2; rw [HNN.out] at hv3; obtain ⟨A2, c2, rfl⟩ := own_form hv3; have HV2 := hid hv3; have HK2 := hid hk2; clear hv2 hv3 hk2)
      obtain ⟨wo, hwo⟩ : ∃ x, x = wr := ⟨_, rfl⟩
      subst hwo
      have HBG := hid (show ∀ gg, (Value.slice A2 N.length c2).ownBlock = some gg → (Value.slice (some ⟨g, 0, none⟩) rest.length cw).ownBlock ≠ some gg from fun gg hgg e => by
        have h1 := (HV2.out.lt gg hgg).1
        have h2 := hgl
        simp only [Value.ownBlock, Option.some.injEq] at e
        omega)
      have HRW3 := hid (HRW2.out.keep HK2.out)
      clear zc hgl i2 i3 i4 w1 w2 cc1 cc2
      go_loopw [4, 32] (fun a b wr => ∃ (j : Nat) (S2 : List Bool) (wk : List Nat) (Aw : Option Addr) (cx : Nat), j ≤ N.length ∧ b = .int .i64 (j : Int) ∧ a = .slice Aw wk.length cx ∧ LiveIn w l n0 n0 (2 * cntF S + rest.length) N p wo.heap.size (.slice A2 N.length c2) j S2 wk (.slice Aw wk.length cx) wr) (fun _ b _ => N.length - (intOf b).toNat)
      case atStart => exact ⟨0, S, rest, _, _, Nat.zero_le _, rfl, rfl, HST2.out, HRW3.out, (fun r hr => by simp at hr), HSP.out, HV2.out, HBG.out, Nat.le_refl _⟩
      case round =>
        obtain ⟨j, S2, wk, Ax, cx, hj, rfl, rfl, hin⟩ := hrel
        have HIN := hid hin
        by_cases hlt : j < N.length
        · have i1 : (j : Int) < (N.length : Int) := by omega
          have k1 : IntKind.i64.wrap ((j : Int) + 1) = (j : Int) + 1 := IntWalk.i64_in _ (by omega)
          obtain ⟨q, hq⟩ : ∃ q, N[j]? = some q := ⟨_, List.getElem?_eq_getElem hlt⟩
          obtain ⟨gN, cN, e, zN, gNl⟩ := hin.row.at_ hq
          cases e
          have hql := HTN.out q (by rw [HNN.out]; exact List.mem_of_getElem? hq)
          obtain ⟨b, hb⟩ : ∃ b, S2[q]? = some b := ⟨_, List.getElem?_eq_getElem (by rw [hin.st.len]; exact hql)⟩
          obtain ⟨zq, fq⟩ := hin.rw_.row.at_ hb
          have i2 : (q : Int) < (l.length : Int) := by omega
          have i3 : (0 : Int) ≤ (q : Int) := by omega
          have HQ := hid hq
          cases b with
          | true =>
            have HB := hid hb
            clear hin hb hq
            go_wp2
            exact ⟨⟨j + 1, S2, wk, _, _, hlt, by congr 1, rfl, HIN.out.skip HQ.out HB.out⟩, by simp only [intOf, Int.toNat_natCast]; omega⟩
          | false =>
            have HB := hid hb
            have hmk := hin.rw_.mark (q := q) (by rw [hin.st.len]; exact hql) (Nat.le_refl _)
            have HWK := hid hmk.wk
            have HGE := hid hmk.ge
            have HMEM := hid (show q ∈ nextM i p by rw [HNN.out]; exact List.mem_of_getElem? hq)
            have HWL := hid (show wk.length ≤ 5000000 by have := hin.big; have := HBD.out; omega)
            clear hin hb hq hmk
            go_wp2_with (at_builtin; refine app_lit_at wr.heap.size ?r0 elInt ?r1 (.tmp 44) (.tmp 46) ?r2 (base := n0) HWK.out ?r3 #[.int .i64 (q : Int)] 3 1 1 ?r4 ?r5 ?r6 ?r7 ?r8 HGE.out ?r9)
            case r0 => simp [World.setCell]
            case r1 => rfl
            case r2 => rfl
            case r3 => rfl
            case r4 => rfl
            case r5 => rfl
            case r6 => first | rfl | (intro u hu; simp at hu; subst hu; rfl)
            case r7 => have := HWL.out; unfold maxLen; omega
            case r8 => have := HWL.out; omega
            case r9 =>
              intro v6 w6 o6 g6 m6 b6
              obtain ⟨A6, c6, rfl⟩ := own_form o6
              have HI6 := hid (LiveIn.push HIN.out HQ.out HB.out HI.out HMEM.out (Nat.le_refl _) o6 g6 m6 b6)
              clear o6 g6 m6 b6
              go_wp2
              exact ⟨⟨j + 1, _, wk ++ [q], A6, c6, hlt, by congr 1, by simp, by simpa using HI6.out⟩, by simp only [intOf, Int.toNat_natCast]; omega⟩
        · have i1 : ¬ (j : Int) < (N.length : Int) := by omega
          have hfin := hin.st.shut HI.out (fun r hr => hin.take r (by rw [HNN.out] at hr; rw [List.take_of_length_le (by omega)]; exact hr))
          have HFIN := hid hfin
          have HRW4 := hid hin.rw_
          have HBIG := hid hin.big
          clear hin hfin
          go_wp2
          have hf2 : fal wr n0 l.length = cntF S2 := by have := OBl.fal_ HRW4.out.row; rw [HFIN.out.len] at this; exact this
          refine ⟨⟨S2, wk, _, _, rfl, HFIN.out, HRW4.out, by have := HBIG.out; have := HBD.out; omega⟩, ?_⟩
          rw [hf2, HF.out]
          unfold lenS
          have := HBIG.out
          show 2 * cntF S2 + wk.length < 2 * cntF S + (rest.length + 1)
          omega
end Go.Proofs.Ytgonekmmbeedeaa.Sq

