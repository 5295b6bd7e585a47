/-
  The laws' own played, in plain Lean: the states that events come to, and what was told of each. No condition.
-/
import Derived.Test.YtiicdknmoakocaaPanM
namespace Go.Proofs.Ytiicdknmoakocaa
set_option linter.unusedVariables false

def noTold (p : PlM) : PlM := { p with told := [] }
/-- The next state, and what is told. -/
def nextM (p : PlM) (e : EventM) : PlM := noTold (eventM p e)
def tellsM (p : PlM) (e : EventM) : List TellM := (eventM p e).told
/-- The states that come (behind the first), till the end. -/
def statesM : PlM → List EventM → List PlM
  | p, [] => []
  | p, e :: l => if p.en = 0 then nextM p e :: statesM (nextM p e) l else []
def allM : PlM → List EventM → List (List TellM)
  | p, [] => []
  | p, e :: l => if p.en = 0 then tellsM p e :: allM (nextM p e) l else []
/-- The numbers are at most k. -/
structure Gr (k : Nat) (p : PlM) : Prop where
  fl : p.fr.length ≤ 30
  n0 : 0 ≤ p.next
  n1 : p.next ≤ k + 1
  s0 : 0 ≤ p.ser
  s1 : p.ser ≤ k
  pl : p.pn.length ≤ k
  df : ∀ f ∈ p.fr, f.defers.length ≤ k
/-- How settle leaves the numbers. -/
structure SetGr (p q : PlM) : Prop where
  fl : p.fr.length ≤ 30 → q.fr.length ≤ 30
  n0 : p.next ≤ q.next
  n1 : q.next ≤ p.next + 1
  se : q.ser = p.ser
  pl : q.pn.length ≤ p.pn.length
  df : ∀ D, (∀ f ∈ p.fr, f.defers.length ≤ D) → ∀ f ∈ q.fr, f.defers.length ≤ D
theorem dropW_len (l : List PanicM) : (dropM l).length ≤ l.length := by
  unfold dropM
  have h : ∀ l : List PanicM, (l.dropWhile (·.abt)).length ≤ l.length := by
    intro l
    induction l with
    | nil => simp
    | cons q r ih => rw [List.dropWhile_cons]; split <;> simp; omega
  have := h l.tail
  rw [List.length_tail] at this; omega
theorem abortW_len (f : FrameM) (l : List PanicM) : (abortM f l).length = l.length := by unfold abortM; split <;> simp
theorem SetGr.via {p p2 q : PlM} (h : SetGr p2 q) (h1 : p2.fr.length ≤ p.fr.length) (h2 : p2.next = p.next) (h3 : p2.ser = p.ser) (h4 : p2.pn.length ≤ p.pn.length) (h5 : ∀ D, (∀ f ∈ p.fr, f.defers.length ≤ D) → ∀ f ∈ p2.fr, f.defers.length ≤ D) : SetGr p q :=
  ⟨fun hh => h.fl (Nat.le_trans h1 hh), by have := h.n0; omega, by have := h.n1; omega, h.se.trans h3, Nat.le_trans h.pl h4, fun D hD => h.df D (h5 D hD)⟩
theorem SetGr.same {p q : PlM} (h1 : q.fr.length ≤ p.fr.length) (h2 : q.next = p.next) (h3 : q.ser = p.ser) (h4 : q.pn.length ≤ p.pn.length) (h5 : ∀ D, (∀ f ∈ p.fr, f.defers.length ≤ D) → ∀ f ∈ q.fr, f.defers.length ≤ D) : SetGr p q :=
  ⟨fun hh => Nat.le_trans h1 hh, by omega, by omega, h3, h4, h5⟩
theorem start_gr {p : PlM} {f : FrameM} {r : List FrameM} (hf : p.fr = f :: r) : SetGr p (startM p f r) := by
  unfold startM
  by_cases h : p.fr.length = 30
  · rw [if_pos h]
    exact .same (Nat.le_refl _) rfl rfl (Nat.le_refl _) (fun D h => h)
  · rw [if_neg h]
    refine ⟨fun hh => ?_, by show p.next ≤ p.next + 1; omega, Int.le_refl _, rfl, Nat.le_refl _, fun D hD g hg => ?_⟩
    · show r.length + 1 + 1 ≤ 30
      have : p.fr.length = r.length + 1 := by rw [hf]; rfl
      omega
    · rcases List.mem_cons.1 hg with rfl | hg
      · exact Nat.zero_le _
      · rcases List.mem_cons.1 hg with rfl | hg
        · show f.defers.dropLast.length ≤ D
          rw [List.length_dropLast]
          have := hD f (by rw [hf]; simp); omega
        · exact hD g (by rw [hf]; simp [hg])
theorem settle_gr : ∀ (n : Nat) (p : PlM), SetGr p (settleN n p)
  | 0, p => .same (Nat.le_refl _) rfl rfl (Nat.le_refl _) (fun D h => h)
  | n + 1, p => by
    unfold settleN
    cases hf : p.fr with
    | nil => exact .same (Nat.le_refl _) rfl rfl (Nat.le_refl _) (fun D h => h)
    | cons f r =>
      dsimp only
      have hr : ∀ D, (∀ f ∈ p.fr, f.defers.length ≤ D) → ∀ g ∈ r, g.defers.length ≤ D := fun D h g hg => h g (by rw [hf]; simp [hg])
      have hlen : p.fr.length = r.length + 1 := by rw [hf]; rfl
      have hmod : ∀ (g : FrameM) (s : List FrameM) (ph : Int), r = g :: s → ∀ D, (∀ f ∈ p.fr, f.defers.length ≤ D) → ∀ x ∈ ({ g with phase := ph } :: s : List FrameM), x.defers.length ≤ D := fun g s ph e D h x hx => by
        rcases List.mem_cons.1 hx with rfl | hx
        · exact hr D h g (by rw [e]; simp)
        · exact hr D h x (by rw [e]; simp [hx])
      split
      · exact start_gr hf
      · split
        · cases hq : r with
          | nil => exact .same (by show 0 ≤ _; omega) rfl rfl (Nat.le_refl _) (fun D h x hx => by cases hx)
          | cons g s =>
            have hs : (g :: s).length ≤ p.fr.length := by rw [hlen, hq]; simp
            dsimp only
            split
            · exact (settle_gr n _).via (by show s.length + 1 ≤ _; simpa using hs) rfl rfl (dropW_len _) (hmod g s 1 hq)
            · split
              · exact .same hs rfl rfl (Nat.le_refl _) (fun D h x hx => hr D h x (by rw [hq]; exact hx))
              · exact (settle_gr n _).via hs rfl rfl (Nat.le_refl _) (fun D h x hx => hr D h x (by rw [hq]; exact hx))
        · cases hq : r with
          | nil => exact .same (by show 0 ≤ _; omega) rfl rfl (Nat.le_refl _) (fun D h x hx => by cases hx)
          | cons g s =>
            have hs : (g :: s).length ≤ p.fr.length := by rw [hlen, hq]; simp
            exact (settle_gr n _).via (by show s.length + 1 ≤ _; simpa using hs) rfl rfl (by show (abortM f p.pn).length ≤ _; rw [abortW_len]; exact Nat.le_refl _) (hmod g s 2 hq)
theorem Gr.phase {k : Nat} {p : PlM} (h : Gr k p) (ph : Int) : Gr k (phase_ p ph) := by
  unfold phase_
  cases hf : p.fr with
  | nil => exact h
  | cons f r =>
    refine ⟨by have := h.fl; rw [hf] at this; exact this, h.n0, h.n1, h.s0, h.s1, h.pl, fun g hg => ?_⟩
    rcases List.mem_cons.1 hg with rfl | hg
    · exact h.df f (by rw [hf]; simp)
    · exact h.df g (by rw [hf]; simp [hg])
theorem Gr.settle {k : Nat} {p : PlM} (h : Gr k p) (hn : p.next ≤ k) : Gr k (settleM p) := by
  have := settle_gr p.fr.length p
  exact ⟨this.fl h.fl, Int.le_trans h.n0 this.n0, by show (settleN p.fr.length p).next ≤ _; have := this.n1; omega, by show 0 ≤ (settleN p.fr.length p).ser; rw [this.se]; exact h.s0, by show (settleN p.fr.length p).ser ≤ _; rw [this.se]; exact h.s1, Nat.le_trans this.pl h.pl, this.df k h.df⟩
theorem Gr.event {k : Nat} {p : PlM} (h : Gr k p) (e : EventM) : Gr (k + 1) (eventM p e) := by
  have h' : Gr (k + 1) p := ⟨h.fl, h.n0, by have := h.n1; omega, h.s0, by have := h.s1; omega, by have := h.pl; omega, fun f hf => by have := h.df f hf; omega⟩
  have hn := h.n1
  unfold eventM
  split
  · split
    · exact ⟨h'.fl, h'.n0, h'.n1, h'.s0, h'.s1, h'.pl, h'.df⟩
    · rename_i h30
      refine ⟨?_, by show 0 ≤ p.next + 1; have := h.n0; omega, by show p.next + 1 ≤ _; omega, h'.s0, h'.s1, h'.pl, fun g hg => ?_⟩
      · show p.fr.length + 1 ≤ 30
        have := h.fl; omega
      · rcases List.mem_cons.1 hg with rfl | hg
        · exact Nat.zero_le _
        · exact h'.df g hg
  · split
    · exact (h'.phase 1).settle (by have : (phase_ p 1).next = p.next := by unfold phase_; split <;> rfl
                                    rw [this]; omega)
    · split
      · cases hf : p.fr with
        | nil => exact h'
        | cons f r =>
          refine ⟨by have := h'.fl; rw [hf] at this; exact this, h'.n0, h'.n1, h'.s0, h'.s1, h'.pl, fun g hg => ?_⟩
          rcases List.mem_cons.1 hg with rfl | hg
          · show (f.defers ++ [e.n]).length ≤ k + 1
            rw [List.length_append, List.length_singleton]
            have := h.df f (by rw [hf]; simp); omega
          · exact h'.df g (by rw [hf]; simp [hg])
      · split
        · have h4 : Gr (k + 1) { p with pn := ⟨p.ser, plainM e.v, false, false⟩ :: p.pn, ser := p.ser + 1 } := ⟨h'.fl, h'.n0, h'.n1, by show 0 ≤ p.ser + 1; have := h.s0; omega, by show p.ser + 1 ≤ _; have := h.s1; omega, by show p.pn.length + 1 ≤ _; have := h.pl; omega, h'.df⟩
          exact (h4.phase 2).settle (by have : (phase_ { p with pn := ⟨p.ser, plainM e.v, false, false⟩ :: p.pn, ser := p.ser + 1 } 2).next = p.next := by unfold phase_; split <;> rfl
                                        rw [this]; omega)
        · split
          · unfold recoverM
            split
            · rename_i f r q s hf hq
              split
              · exact ⟨h'.fl, h'.n0, h'.n1, h'.s0, h'.s1, by have := h'.pl; rw [hq] at this; exact this, h'.df⟩
              · exact ⟨h'.fl, h'.n0, h'.n1, h'.s0, h'.s1, h'.pl, h'.df⟩
            · exact ⟨h'.fl, h'.n0, h'.n1, h'.s0, h'.s1, h'.pl, h'.df⟩
          · exact ⟨h'.fl, h'.n0, h'.n1, h'.s0, h'.s1, h'.pl, h'.df⟩
theorem Gr.next {k : Nat} {p : PlM} (h : Gr k p) (e : EventM) : Gr (k + 1) (nextM p e) := by
  have := h.event e
  exact ⟨this.fl, this.n0, this.n1, this.s0, this.s1, this.pl, this.df⟩
theorem Good.noTold {p : PlM} (h : Good p) : Good (noTold p) := by
  rcases h with h | h
  · exact .inl ⟨⟨h.en0, h.ne, h.stk, h.ids, h.ris⟩, h.ph, h.ev⟩
  · exact .inr ⟨h.en0, h.ris, h.lst, h.crash⟩
theorem next_good {p : PlM} (h : Runs p) (e : EventM) : Good (nextM p e) := (event_good h e).noTold
theorem Good.runs {p : PlM} (h : Good p) (he : p.en = 0) : Runs p := by
  rcases h with h | h
  · exact h
  · exact absurd he h.en0
theorem Good.ne {p : PlM} (h : Good p) (he : p.en = 0) : p.fr ≠ [] := (h.runs he).ne
end Go.Proofs.Ytiicdknmoakocaa
