/-
  What goes on when activations call, defer, return, panic and recover: in plain Lean, and what stands through it. No condition.
-/
import Derived.Test.YtiicdknmoakocaaPan
import Derived.Test.YtiicdknmoakocaaPlain
namespace Go.Proofs.Ytiicdknmoakocaa
set_option linter.unusedVariables false

def zV : ValM := ⟨0, 0, ⟨#[]⟩, []⟩
/-- A state at work: activations and panics with the last one first, what was told with the first one first. -/
structure PlM where
  fr : List FrameM
  pn : List PanicM
  next : Int
  ser : Int
  en : Int
  stat : Int
  told : List TellM
def PlM.tell (p : PlM) (t : TellM) : PlM := { p with told := p.told ++ [t] }
def PlM.over (p : PlM) (e s : Int) : PlM := { p with en := e, stat := s, told := p.told ++ [⟨7, e, 0, zV⟩] }
/-- A new activation on top (there is room for it). -/
def PlM.grow (p : PlM) (mark serial : Int) : PlM := { p with fr := ⟨p.next, mark, serial, 0, []⟩ :: p.fr, next := p.next + 1 }
def lastSer (l : List PanicM) : Int := match l with | [] => 0 | q :: _ => q.serial
def lastRec (l : List PanicM) : Bool := match l with | [] => false | q :: _ => q.rcd
def lastDef (f : FrameM) : Int := f.defers.getLastD 0
def startMark (f : FrameM) : Int := if f.phase = 2 then 2 else 1
def startSer (p : PlM) (f : FrameM) : Int := if f.phase = 2 then lastSer p.pn else -1
/-- The last deferred call of the activation on top starts. -/
def startM (p : PlM) (f : FrameM) (r : List FrameM) : PlM :=
  if p.fr.length = 30 then p.over 6 0
  else { p with fr := ⟨p.next, startMark f, startSer p f, 0, []⟩ :: { f with defers := f.defers.dropLast } :: r, next := p.next + 1, told := p.told ++ [⟨2, lastDef f, p.next, zV⟩] }
def dropM (l : List PanicM) : List PanicM := l.tail.dropWhile (·.abt)
def abortM (f : FrameM) (l : List PanicM) : List PanicM := if f.mark = 2 then l.map fun q => if q.serial = f.panic then { q with abt := true } else q else l
def PlM.left (p : PlM) (f : FrameM) (r : List FrameM) : PlM := { p with fr := r, told := p.told ++ [⟨3, f.id, 0, zV⟩] }
def PlM.passed (p : PlM) (f : FrameM) (r : List FrameM) : PlM := { p with fr := r, told := p.told ++ [⟨4, f.id, 0, zV⟩] }
def settleN : Nat → PlM → PlM
  | 0, p => p
  | n + 1, p => match p.fr with
    | [] => p
    | f :: r => if f.defers ≠ [] then startM p f r
      else if f.phase = 1 then match r with
        | [] => (p.left f r).over 1 0
        | g :: s => if f.mark = 2 ∧ lastRec p.pn = true then settleN n { p.left f r with pn := dropM p.pn, fr := { g with phase := 1 } :: s }
          else if f.mark = 0 then p.left f r else settleN n (p.left f r)
      else match r with
        | [] => (p.passed f r).over 2 2
        | g :: s => settleN n { p.passed f r with pn := abortM f p.pn, fr := { g with phase := 2 } :: s }
def settleM (p : PlM) : PlM := settleN p.fr.length p
def recB (f : FrameM) (l : List PanicM) : Bool := match l with | [] => false | q :: _ => decide (f.mark = 2) && decide (q.serial = f.panic) && !q.rcd
def recoverM (p : PlM) : PlM := match p.fr, p.pn with
  | f :: r, q :: s => if recB f (q :: s) then { p with pn := { q with rcd := true } :: s, told := p.told ++ [⟨5, 0, 0, plainM q.val⟩] } else { p with told := p.told ++ [⟨6, 0, 0, zV⟩] }
  | _, _ => { p with told := p.told ++ [⟨6, 0, 0, zV⟩] }
def phase_ (p : PlM) (ph : Int) : PlM := match p.fr with | [] => p | f :: r => { p with fr := { f with phase := ph } :: r }
def bits8 (n : Int) : Int := n % 256
/-- What comes of an event (of one of the six kinds, and of a panic that may be). -/
def eventM (p : PlM) (e : EventM) : PlM :=
  if e.kind = 1 then (if p.fr.length = 30 then p.over 6 0 else (p.grow 0 (-1)).tell ⟨1, p.next, 0, zV⟩)
  else if e.kind = 2 then settleM (phase_ p 1)
  else if e.kind = 3 then match p.fr with | [] => p | f :: r => { p with fr := { f with defers := f.defers ++ [e.n] } :: r }
  else if e.kind = 4 then settleM (phase_ { p with pn := ⟨p.ser, plainM e.v, false, false⟩ :: p.pn, ser := p.ser + 1 } 2)
  else if e.kind = 5 then recoverM p
  else p.over 3 (bits8 e.n)

/-! ### what stands -/
def marksOf (F : List FrameM) : List Int := (F.filter fun f => decide (f.mark = 2)).map (·.panic)
def liveOf (P : List PanicM) : List Int := (P.filter fun q => !q.abt).map (·.serial)
/-- How an activation was begun is the phase of the one below. -/
def Stk : List FrameM → Prop
  | [] => True
  | [f] => f.mark = 0 ∧ f.id = 0
  | f :: g :: r => (f.mark = g.phase ∧ g.id < f.id ∧ (f.mark = 0 ∨ f.mark = 1 ∨ f.mark = 2)) ∧ Stk (g :: r)
def Rising : List PanicM → Int → Prop
  | [], _ => True
  | q :: r, s => q.serial < s ∧ Rising r q.serial
def LastLive (l : List PanicM) : Prop := match l with | [] => True | q :: _ => q.abt = false
def topPhase (F : List FrameM) : Int := match F with | [] => 0 | f :: _ => f.phase
def topId (F : List FrameM) : Int := match F with | [] => -1 | f :: _ => f.id
/-- Panics in flight and activations that they began go together, in a state that runs or leaves. -/
def Even (F : List FrameM) (P : List PanicM) : Prop := marksOf F = liveOf P ∧ LastLive P
/-- In a state that a panic goes through: the last panic is the one that goes. -/
def Odd (F : List FrameM) (P : List PanicM) : Prop := ∃ q r, P = q :: r ∧ q.abt = false ∧ q.rcd = false ∧ liveOf r = marksOf F
structure Inv (p : PlM) : Prop where
  en0 : p.en = 0
  ne : p.fr ≠ []
  stk : Stk p.fr
  ids : topId p.fr < p.next
  ris : Rising p.pn p.ser
/-- What stands between events. -/
structure Runs (p : PlM) : Prop extends Inv p where
  ph : topPhase p.fr = 0
  ev : Even p.fr p.pn
/-- What stands while activations end. -/
structure Ends (p : PlM) : Prop extends Inv p where
  ph : (topPhase p.fr = 1 ∧ Even p.fr p.pn) ∨ (topPhase p.fr = 2 ∧ Odd p.fr p.pn)
/-- What stands behind the end. -/
structure Over (p : PlM) : Prop where
  en0 : p.en ≠ 0
  ris : Rising p.pn p.ser
  lst : LastLive p.pn
  crash : p.en = 2 → p.fr = [] ∧ p.stat = 2 ∧ ∃ q r, p.pn = q :: r ∧ q.rcd = false ∧ q.abt = false
def Good (p : PlM) : Prop := Runs p ∨ Over p

theorem Rising.drop {l : List PanicM} {s : Int} (f : PanicM → Bool) (h : Rising l s) : Rising (l.dropWhile f) s := by
  induction l generalizing s with
  | nil => exact h
  | cons q r ih =>
    rw [List.dropWhile_cons]
    split
    · refine ih ?_
      cases r with
      | nil => trivial
      | cons q2 r2 => exact ⟨Int.lt_trans h.2.1 h.1, h.2.2⟩
    · exact h
theorem Rising.tail {q : PanicM} {l : List PanicM} {s : Int} (h : Rising (q :: l) s) : Rising l s := by
  cases l with
  | nil => trivial
  | cons q2 r2 => exact ⟨Int.lt_trans h.2.1 h.1, h.2.2⟩
theorem Rising.map {l : List PanicM} {s : Int} (f : PanicM → PanicM) (hf : ∀ q, (f q).serial = q.serial) (h : Rising l s) : Rising (l.map f) s := by
  induction l generalizing s with
  | nil => exact h
  | cons q r ih => exact ⟨by rw [hf]; exact h.1, by rw [hf]; exact ih h.2⟩
theorem Rising.lt {l : List PanicM} {s : Int} (h : Rising l s) : ∀ q ∈ l, q.serial < s := by
  induction l generalizing s with
  | nil => intro q hq; cases hq
  | cons q r ih =>
    intro x hx
    rcases List.mem_cons.1 hx with rfl | hx
    · exact h.1
    · exact Int.lt_trans (ih h.2 x hx) h.1
theorem live_drop (l : List PanicM) : liveOf (l.dropWhile (·.abt)) = liveOf l := by
  induction l with
  | nil => rfl
  | cons q r ih =>
    rw [List.dropWhile_cons]
    split
    · rename_i h; rw [ih]; unfold liveOf; rw [List.filter_cons_of_neg (by simp [h])]
    · rfl
theorem lastLive_drop (l : List PanicM) : LastLive (l.dropWhile (·.abt)) := by
  induction l with
  | nil => trivial
  | cons q r ih =>
    rw [List.dropWhile_cons]
    split
    · exact ih
    · rename_i h; simpa [LastLive] using h
theorem live_cons {q : PanicM} {r : List PanicM} (h : q.abt = false) : liveOf (q :: r) = q.serial :: liveOf r := by
  unfold liveOf; rw [List.filter_cons_of_pos (by simp [h])]; rfl
theorem marks_cons {f : FrameM} {r : List FrameM} (h : f.mark = 2) : marksOf (f :: r) = f.panic :: marksOf r := by
  unfold marksOf; rw [List.filter_cons_of_pos (by simp [h])]; rfl
theorem marks_skip {f : FrameM} {r : List FrameM} (h : f.mark ≠ 2) : marksOf (f :: r) = marksOf r := by
  unfold marksOf; rw [List.filter_cons_of_neg (by simp [h])]
theorem marks_head {f g : FrameM} {r : List FrameM} (h : f.mark = g.mark) (h2 : f.panic = g.panic) : marksOf (f :: r) = marksOf (g :: r) := by
  by_cases e : f.mark = 2
  · rw [marks_cons e, marks_cons (by omega), h2]
  · rw [marks_skip e, marks_skip (by omega)]
/-- A panic broken off: the one of this serial is taken out of those that live. -/
theorem live_abort {l : List PanicM} {s : Int} {x : Int} (h : Rising l s) : liveOf (l.map fun q => if q.serial = x then { q with abt := true } else q) = (liveOf l).filter fun y => decide (y ≠ x) := by
  induction l generalizing s with
  | nil => rfl
  | cons q r ih =>
    rw [List.map_cons]
    by_cases e : q.serial = x
    · rw [if_pos e]
      have h1 : liveOf ({ q with abt := true } :: r.map fun q => if q.serial = x then { q with abt := true } else q) = liveOf (r.map fun q => if q.serial = x then { q with abt := true } else q) := by
        unfold liveOf; rw [List.filter_cons_of_neg (by simp)]
      rw [h1, ih h.2]
      by_cases a : q.abt = true
      · have : liveOf (q :: r) = liveOf r := by unfold liveOf; rw [List.filter_cons_of_neg (by simp [a])]
        rw [this]
      · rw [live_cons (by simpa using a), List.filter_cons_of_neg (by simp [e])]
    · rw [if_neg e]
      by_cases a : q.abt = true
      · have h1 : ∀ r', liveOf (q :: r') = liveOf r' := fun r' => by unfold liveOf; rw [List.filter_cons_of_neg (by simp [a])]
        rw [h1, h1, ih h.2]
      · rw [live_cons (by simpa using a), live_cons (by simpa using a), ih h.2, List.filter_cons_of_pos (by simp [e])]
theorem live_mem {l : List PanicM} {x : Int} (h : x ∈ liveOf l) : ∃ q ∈ l, q.serial = x := by
  unfold liveOf at h
  rw [List.mem_map] at h
  obtain ⟨q, hq, rfl⟩ := h
  exact ⟨q, (List.mem_filter.1 hq).1, rfl⟩
theorem live_pairs {l : List PanicM} {s : Int} (h : Rising l s) : (liveOf l).Pairwise fun a b => b < a := by
  induction l generalizing s with
  | nil => exact List.Pairwise.nil
  | cons q r ih =>
    by_cases a : q.abt = true
    · have : liveOf (q :: r) = liveOf r := by unfold liveOf; rw [List.filter_cons_of_neg (by simp [a])]
      rw [this]; exact ih h.2
    · rw [live_cons (by simpa using a)]
      refine List.Pairwise.cons (fun b hb => ?_) (ih h.2)
      obtain ⟨q2, hq2, rfl⟩ := live_mem hb
      exact h.2.lt q2 hq2
theorem filter_other {l : List Int} {x : Int} (h : x ∉ l) : l.filter (fun y => decide (y ≠ x)) = l := by
  rw [List.filter_eq_self]
  intro a ha
  simp; intro e; subst e; exact h ha
theorem Stk.tail {f g : FrameM} {r : List FrameM} (h : Stk (f :: g :: r)) : Stk (g :: r) := h.2
theorem Stk.head {f f' : FrameM} {r : List FrameM} (h : Stk (f :: r)) (hm : f'.mark = f.mark) (hi : f'.id = f.id) : Stk (f' :: r) := by
  cases r with
  | nil => exact ⟨hm.trans h.1, hi.trans h.2⟩
  | cons g s => exact ⟨⟨hm.trans h.1.1, by rw [hi]; exact h.1.2.1, by rw [hm]; exact h.1.2.2⟩, h.2⟩

/-- One step while activations end: what stands is handed on, or the end is there. -/
theorem Ends.over_left {p : PlM} {f : FrameM} (h : Ends p) (hf : p.fr = [f]) (hp : f.phase = 1) : Over ((p.left f []).over 1 0) := by
  have e : topPhase p.fr = 1 := by rw [hf]; exact hp
  refine ⟨by simp [PlM.over], h.ris, ?_, fun h2 => by simp [PlM.over] at h2⟩
  rcases h.ph with h1 | h1
  · exact h1.2.2
  · rw [e] at h1; exact absurd h1.1 (by decide)
theorem Ends.over_passed {p : PlM} {f : FrameM} (h : Ends p) (hf : p.fr = [f]) (hp : f.phase ≠ 1) : Over ((p.passed f []).over 2 2) := by
  have e : topPhase p.fr = f.phase := by rw [hf]; rfl
  rcases h.ph with h1 | h1
  · rw [e] at h1; exact absurd h1.1 hp
  · obtain ⟨q, r, hq, ha, hr, _⟩ := h1.2
    refine ⟨by simp [PlM.over], h.ris, ?_, fun _ => ⟨rfl, rfl, q, r, hq, hr, ha⟩⟩
    show LastLive p.pn
    rw [hq]; exact ha
theorem Ends.drop_ {p : PlM} {f g : FrameM} {s : List FrameM} (h : Ends p) (hf : p.fr = f :: g :: s) (hp : f.phase = 1) (hm : f.mark = 2) : Ends { p.left f (g :: s) with pn := dropM p.pn, fr := { g with phase := 1 } :: s } := by
  have e : topPhase p.fr = 1 := by rw [hf]; exact hp
  have hst := h.stk
  rw [hf] at hst
  rcases h.ph with h1 | h1
  · obtain ⟨_, hE, hL⟩ := h1
    have hR := h.ris
    rw [hf, marks_cons hm] at hE
    cases hpn : p.pn with
    | nil => rw [hpn] at hE; simp [liveOf] at hE
    | cons q r =>
      rw [hpn] at hE hL hR
      rw [live_cons hL] at hE
      have hE2 := (List.cons.inj hE).2
      refine ⟨⟨h.en0, by simp, hst.tail.head rfl rfl, ?_, (hR.tail).drop _⟩, .inl ⟨rfl, ?_, ?_⟩⟩
      · have h2 := h.ids; rw [hf] at h2
        exact Int.lt_trans hst.1.2.1 h2
      · show marksOf ({ g with phase := 1 } :: s) = liveOf (dropM (q :: r))
        unfold dropM
        rw [List.tail_cons, live_drop, ← hE2]
        exact marks_head rfl rfl
      · exact lastLive_drop r
  · rw [e] at h1; exact absurd h1.1 (by decide)
theorem Ends.leave {p : PlM} {f g : FrameM} {s : List FrameM} (h : Ends p) (hf : p.fr = f :: g :: s) (hp : f.phase = 1) (hm : ¬ (f.mark = 2 ∧ lastRec p.pn = true)) (h0 : f.mark ≠ 0) : Ends (p.left f (g :: s)) := by
  have e : topPhase p.fr = 1 := by rw [hf]; exact hp
  have hst := h.stk
  rw [hf] at hst
  have hid : topId (g :: s) < p.next := by
    have h2 := h.ids; rw [hf] at h2
    exact Int.lt_trans hst.1.2.1 h2
  rcases h.ph with h1 | h1
  · obtain ⟨_, hE, hL⟩ := h1
    rw [hf] at hE
    refine ⟨⟨h.en0, by simp [PlM.left], hst.tail, hid, h.ris⟩, ?_⟩
    rcases hst.1.2.2 with h2 | h2 | h2
    · exact absurd h2 h0
    · refine .inl ⟨?_, ?_, hL⟩
      · show g.phase = 1
        have := hst.1.1; omega
      · show marksOf (g :: s) = liveOf p.pn
        rw [← hE, marks_skip (f := f) (by omega)]
    · refine .inr ⟨?_, ?_⟩
      · show g.phase = 2
        have := hst.1.1; omega
      · rw [marks_cons h2] at hE
        cases hpn : p.pn with
        | nil => rw [hpn] at hE; simp [liveOf] at hE
        | cons q r =>
          rw [hpn] at hE hL hm
          rw [live_cons hL] at hE
          refine ⟨q, r, hpn, hL, ?_, (List.cons.inj hE).2.symm⟩
          have h3 : ¬ lastRec (q :: r) = true := fun h4 => hm ⟨h2, h4⟩
          simpa [lastRec] using h3
  · rw [e] at h1; exact absurd h1.1 (by decide)
theorem Ends.stop {p : PlM} {f g : FrameM} {s : List FrameM} (h : Ends p) (hf : p.fr = f :: g :: s) (hp : f.phase = 1) (h0 : f.mark = 0) : Runs (p.left f (g :: s)) := by
  have e : topPhase p.fr = 1 := by rw [hf]; exact hp
  have hst := h.stk
  rw [hf] at hst
  have hid : topId (g :: s) < p.next := by
    have h2 := h.ids; rw [hf] at h2
    exact Int.lt_trans hst.1.2.1 h2
  rcases h.ph with h1 | h1
  · obtain ⟨_, hE, hL⟩ := h1
    rw [hf] at hE
    refine ⟨⟨h.en0, by simp [PlM.left], hst.tail, hid, h.ris⟩, ?_, ?_, hL⟩
    · show g.phase = 0
      have := hst.1.1; omega
    · show marksOf (g :: s) = liveOf p.pn
      rw [← hE, marks_skip (f := f) (by omega)]
  · rw [e] at h1; exact absurd h1.1 (by decide)
theorem abort_ser (x : Int) : ∀ q : PanicM, (if q.serial = x then { q with abt := true } else q : PanicM).serial = q.serial := by intro q; split <;> rfl
theorem Ends.pass {p : PlM} {f g : FrameM} {s : List FrameM} (h : Ends p) (hf : p.fr = f :: g :: s) (hp : f.phase ≠ 1) : Ends { p.passed f (g :: s) with pn := abortM f p.pn, fr := { g with phase := 2 } :: s } := by
  have e : topPhase p.fr = f.phase := by rw [hf]; rfl
  have hst := h.stk
  rw [hf] at hst
  have hid : topId ({ g with phase := 2 } :: s) < p.next := by
    have h2 := h.ids; rw [hf] at h2
    exact Int.lt_trans hst.1.2.1 h2
  rcases h.ph with h1 | h1
  · rw [e] at h1; exact absurd h1.1 hp
  · obtain ⟨q, r, hq, ha, hr, hl⟩ := h1.2
    have hR := h.ris
    have hgm : marksOf ({ g with phase := 2 } :: s) = marksOf (g :: s) := marks_head rfl rfl
    by_cases hm : f.mark = 2
    · rw [hf, marks_cons hm] at hl
      have hpn : abortM f p.pn = p.pn.map fun q => if q.serial = f.panic then { q with abt := true } else q := by unfold abortM; rw [if_pos hm]
      rw [hq] at hR hpn
      rw [List.map_cons] at hpn
      have hne : ¬ q.serial = f.panic := by
        intro h3
        have h4 : f.panic ∈ liveOf r := by rw [hl]; exact List.mem_cons_self ..
        obtain ⟨q2, hq2, h5⟩ := live_mem h4
        have := hR.2.lt q2 hq2
        omega
      rw [if_neg hne] at hpn
      refine ⟨⟨h.en0, by simp, hst.tail.head rfl rfl, hid, ?_⟩, .inr ⟨rfl, q, _, (congrArg (abortM f) hq).trans hpn, ha, hr, ?_⟩⟩
      · show Rising (abortM f p.pn) p.ser
        rw [hq, hpn]
        exact ⟨hR.1, hR.2.map _ (abort_ser _)⟩
      · rw [live_abort hR.2, hl, List.filter_cons_of_neg (by simp)]
        show _ = marksOf ({ g with phase := 2 } :: s)
        rw [hgm]
        refine filter_other (fun h6 => ?_)
        have h7 := live_pairs hR.2
        rw [hl, List.pairwise_cons] at h7
        have := h7.1 _ h6
        omega
    · have hpn : abortM f p.pn = p.pn := by unfold abortM; rw [if_neg hm]
      rw [hf, marks_skip hm] at hl
      refine ⟨⟨h.en0, by simp, hst.tail.head rfl rfl, hid, ?_⟩, .inr ⟨rfl, q, r, hpn.trans hq, ha, hr, ?_⟩⟩
      · show Rising (abortM f p.pn) p.ser
        rw [hpn]; exact hR
      · rw [hl]; exact hgm.symm
theorem Ends.start_ {p : PlM} {f : FrameM} {r : List FrameM} (h : Ends p) (hf : p.fr = f :: r) : Good (startM p f r) := by
  unfold startM
  by_cases hl : p.fr.length = 30
  · rw [if_pos hl]
    refine .inr ⟨by simp [PlM.over], h.ris, ?_, fun h2 => by simp [PlM.over] at h2⟩
    rcases h.ph with h1 | h1
    · exact h1.2.2
    · obtain ⟨q, r, hq, ha, _⟩ := h1.2
      show LastLive p.pn
      rw [hq]; exact ha
  · rw [if_neg hl]
    have hst := h.stk
    have hid := h.ids
    rw [hf] at hst hid
    have hs2 : Stk ({ f with defers := f.defers.dropLast } :: r) := hst.head rfl rfl
    have hgm : marksOf ({ f with defers := f.defers.dropLast } :: r) = marksOf (f :: r) := marks_head rfl rfl
    rcases h.ph with h1 | h1
    · have hph : f.phase = 1 := by have := h1.1; rw [hf] at this; exact this
      have hsm : startMark f = 1 := by unfold startMark; rw [if_neg (by omega)]
      refine .inl ⟨⟨h.en0, by simp, ⟨⟨by rw [hsm]; exact hph.symm, hid, .inr (.inl hsm)⟩, hs2⟩, ?_, h.ris⟩, rfl, ?_, h1.2.2⟩
      · show p.next < p.next + 1; omega
      · show marksOf (_ :: _ :: r) = liveOf p.pn
        rw [marks_skip (by show startMark f ≠ 2; omega), hgm, ← h1.2.1, hf]
    · have hph : f.phase = 2 := by have := h1.1; rw [hf] at this; exact this
      have hsm : startMark f = 2 := by unfold startMark; rw [if_pos hph]
      obtain ⟨q, r', hq, ha, hr, hlv⟩ := h1.2
      have hss : startSer p f = q.serial := by unfold startSer; rw [if_pos hph, hq]; rfl
      refine .inl ⟨⟨h.en0, by simp, ⟨⟨hsm.trans hph.symm, hid, .inr (.inr hsm)⟩, hs2⟩, ?_, h.ris⟩, rfl, ?_, ?_⟩
      · show p.next < p.next + 1; omega
      · show marksOf (_ :: _ :: r) = liveOf p.pn
        rw [marks_cons hsm, hgm, hq, live_cons ha, hlv, hf]
        show startSer p f :: _ = _
        rw [hss]
      · show LastLive p.pn
        rw [hq]; exact ha
theorem settle_good : ∀ (n : Nat) (p : PlM), p.fr.length = n → Ends p → Good (settleN n p)
  | 0, p, hn, h => absurd (List.eq_nil_of_length_eq_zero hn) h.ne
  | n + 1, p, hn, h => by
    unfold settleN
    cases hf : p.fr with
    | nil => exact absurd hf h.ne
    | cons f r =>
      rw [hf] at hn
      dsimp only
      split
      · exact h.start_ hf
      · rename_i hd
        split
        · rename_i hp
          cases r with
          | nil => exact .inr (h.over_left hf hp)
          | cons g s =>
            dsimp only
            split
            · rename_i hm
              exact settle_good n _ (by simpa using hn) (h.drop_ hf hp hm.1)
            · rename_i hm
              split
              · rename_i h0; exact .inl (h.stop hf hp h0)
              · rename_i h0; exact settle_good n _ (by simpa [PlM.left] using hn) (h.leave hf hp hm h0)
        · rename_i hp
          cases r with
          | nil => exact .inr (h.over_passed hf hp)
          | cons g s => exact settle_good n _ (by simpa using hn) (h.pass hf hp)
theorem Runs.returns {p : PlM} (h : Runs p) : Ends (phase_ p 1) := by
  obtain ⟨f, r, hf⟩ : ∃ f r, p.fr = f :: r := by
    cases hp : p.fr with
    | nil => exact absurd hp h.ne
    | cons f r => exact ⟨f, r, rfl⟩
  have e : phase_ p 1 = { p with fr := { f with phase := 1 } :: r } := by unfold phase_; rw [hf]
  have hst := h.stk; have hid := h.ids; have hev := h.ev.1
  rw [hf] at hst hid hev
  rw [e]
  exact ⟨⟨h.en0, by simp, hst.head rfl rfl, hid, h.ris⟩, .inl ⟨rfl, (marks_head (f := { f with phase := 1 }) (g := f) (r := r) rfl rfl).trans hev, h.ev.2⟩⟩
theorem Runs.panics {p : PlM} (h : Runs p) (v : ValM) : Ends (phase_ { p with pn := ⟨p.ser, v, false, false⟩ :: p.pn, ser := p.ser + 1 } 2) := by
  obtain ⟨f, r, hf⟩ : ∃ f r, p.fr = f :: r := by
    cases hp : p.fr with
    | nil => exact absurd hp h.ne
    | cons f r => exact ⟨f, r, rfl⟩
  have e : phase_ { p with pn := ⟨p.ser, v, false, false⟩ :: p.pn, ser := p.ser + 1 } 2 = { p with pn := ⟨p.ser, v, false, false⟩ :: p.pn, ser := p.ser + 1, fr := { f with phase := 2 } :: r } := by unfold phase_; rw [hf]
  have hst := h.stk; have hid := h.ids; have hev := h.ev.1
  rw [hf] at hst hid hev
  rw [e]
  refine ⟨⟨h.en0, by simp, hst.head rfl rfl, hid, ?_, h.ris⟩, .inr ⟨rfl, _, _, rfl, rfl, rfl, ?_⟩⟩
  · show p.ser < p.ser + 1; omega
  · rw [← hev]; exact marks_head rfl rfl
theorem event_good {p : PlM} (h : Runs p) (e : EventM) : Good (eventM p e) := by
  unfold eventM
  obtain ⟨f, r, hf⟩ : ∃ f r, p.fr = f :: r := by
    cases hp : p.fr with
    | nil => exact absurd hp h.ne
    | cons f r => exact ⟨f, r, rfl⟩
  have hst := h.stk; have hid := h.ids; have hev := h.ev.1; have hph := h.ph
  rw [hf] at hst hid hev hph
  split
  · split
    · exact .inr ⟨by simp [PlM.over], h.ris, h.ev.2, fun h2 => by simp [PlM.over] at h2⟩
    · refine .inl ⟨⟨h.en0, by simp [PlM.grow, PlM.tell], ?_, ?_, h.ris⟩, rfl, ?_, h.ev.2⟩
      · show Stk (_ :: p.fr)
        rw [hf]
        exact ⟨⟨hph.symm, hid, .inl rfl⟩, hst⟩
      · show p.next < p.next + 1; omega
      · show marksOf (_ :: p.fr) = liveOf p.pn
        rw [marks_skip (fun h => by cases h), hf]; exact hev
  · split
    · exact settle_good _ _ rfl h.returns
    · split
      · rw [hf]
        exact .inl ⟨⟨h.en0, by simp, hst.head rfl rfl, hid, h.ris⟩, hph, (marks_head (f := { f with defers := f.defers ++ [e.n] }) (g := f) (r := r) rfl rfl).trans hev, h.ev.2⟩
      · split
        · exact settle_good _ _ rfl (h.panics _)
        · split
          · unfold recoverM
            split
            · rename_i f' r' q s hf' hq
              have hR := h.ris; have hL := h.ev.2
              rw [hq] at hR hL hev
              split
              · refine .inl ⟨⟨h.en0, h.ne, h.stk, h.ids, ⟨hR.1, hR.2⟩⟩, h.ph, ?_, hL⟩
                show marksOf p.fr = liveOf ({ q with rcd := true } :: s)
                have hL' : q.abt = false := hL
                rw [hf, hev, live_cons hL', live_cons (q := { q with rcd := true }) hL']
              · exact .inl ⟨⟨h.en0, h.ne, h.stk, h.ids, h.ris⟩, h.ph, h.ev⟩
            · exact .inl ⟨⟨h.en0, h.ne, h.stk, h.ids, h.ris⟩, h.ph, h.ev⟩
          · exact .inr ⟨by simp [PlM.over], h.ris, h.ev.2, fun h2 => by simp [PlM.over] at h2⟩
end Go.Proofs.Ytiicdknmoakocaa
