/-
  What is told of panics, in plain Lean: a panic leaves main just where the run crashes; without a panic nothing of panics is told. No condition.
-/
import Derived.Test.YtiicdknmoakocaaPanZ
namespace Go.Proofs.Ytiicdknmoakocaa
set_option linter.unusedVariables false
set_option linter.unusedSimpArgs false

def isP (t : TellM) : Bool := decide (t.kind = 4) && decide (t.n = 0)
theorem stk_id : ∀ (r : List FrameM) (f : FrameM), Stk (f :: r) → 0 ≤ f.id ∧ (r ≠ [] → 0 < f.id)
  | [], f, h => ⟨by have := h.2; omega, fun e => absurd rfl e⟩
  | g :: s, f, h => by
    have h1 := stk_id s g h.2
    have h2 := h.1.2.1
    exact ⟨by omega, fun _ => by omega⟩
theorem any_snoc {l : List TellM} {t : TellM} {f : TellM → Bool} (h : l.any f = false) : (l ++ [t]).any f = f t := by
  rw [List.any_append, h]; simp
theorem start_crash {p : PlM} {f : FrameM} {r : List FrameM} (h0 : p.en = 0) (ht : p.told.any isP = false) : (startM p f r).told.any isP = decide ((startM p f r).en = 2) := by
  unfold startM
  split
  · show (p.told ++ [_]).any isP = _
    rw [any_snoc ht]; rfl
  · show (p.told ++ [_]).any isP = decide (p.en = 2)
    rw [any_snoc ht, h0]; rfl
theorem settle_crash : ∀ (n : Nat) (p : PlM), p.fr.length = n → Ends p → p.told.any isP = false → (settleN n p).told.any isP = decide ((settleN n p).en = 2)
  | 0, p, hn, h, ht => absurd (List.eq_nil_of_length_eq_zero hn) h.ne
  | n + 1, p, hn, h, ht => by
    unfold settleN
    cases hf : p.fr with
    | nil => exact absurd hf h.ne
    | cons f r =>
      rw [hf] at hn
      have hst := h.stk
      rw [hf] at hst
      have h3 : ∀ t : TellM, t.kind ≠ 4 → (p.told ++ [t]).any isP = false := fun t hk => by rw [any_snoc ht]; unfold isP; rw [decide_eq_false hk]; rfl
      dsimp only
      split
      · exact start_crash h.en0 ht
      · rename_i hd
        split
        · rename_i hp
          cases r with
          | nil =>
            show (p.told ++ [_] ++ [_]).any isP = decide ((1 : Int) = 2)
            rw [any_snoc (h3 ⟨3, f.id, 0, zV⟩ (by show ¬ (3 : Int) = 4; decide))]; rfl
          | cons g s =>
            dsimp only
            split
            · rename_i hm
              exact settle_crash n _ (by simpa using hn) (h.drop_ hf hp hm.1) (h3 _ (by show ¬ (3 : Int) = 4; decide))
            · rename_i hm
              split
              · rename_i h0
                show (p.told ++ [_]).any isP = decide (p.en = 2)
                rw [h3 ⟨3, f.id, 0, zV⟩ (by show ¬ (3 : Int) = 4; decide), h.en0]; rfl
              · rename_i h0; exact settle_crash n _ (by simpa [PlM.left] using hn) (h.leave hf hp hm h0) (h3 _ (by show ¬ (3 : Int) = 4; decide))
        · rename_i hp
          cases r with
          | nil =>
            show (p.told ++ [(⟨4, f.id, 0, zV⟩ : TellM)] ++ [_]).any isP = decide ((2 : Int) = 2)
            rw [List.any_append, any_snoc ht, hst.2]; rfl
          | cons g s =>
            refine settle_crash n _ (by simpa using hn) (h.pass hf hp) ?_
            show (p.told ++ [(⟨4, f.id, 0, zV⟩ : TellM)]).any isP = false
            rw [any_snoc ht]
            have := (stk_id _ _ hst).2 (by simp)
            unfold isP
            have e : decide (f.id = 0) = false := decide_eq_false (by omega)
            show (decide ((4 : Int) = 4) && decide (f.id = 0)) = false
            rw [e]; rfl
theorem event_crash {p : PlM} (h : Runs p) (ht : p.told = []) (e : EventM) : (eventM p e).told.any isP = decide ((eventM p e).en = 2) := by
  unfold eventM
  obtain ⟨f, r, hf⟩ : ∃ f r, p.fr = f :: r := by
    cases hp : p.fr with
    | nil => exact absurd hp h.ne
    | cons f r => exact ⟨f, r, rfl⟩
  have ha : p.told.any isP = false := by rw [ht]; rfl
  have h0 := h.en0
  split
  · split
    · show (p.told ++ [_]).any isP = _
      rw [any_snoc ha]; rfl
    · show (p.told ++ [_]).any isP = decide (p.en = 2)
      rw [any_snoc ha, h0]; rfl
  · split
    · exact settle_crash _ _ rfl h.returns (by unfold phase_; rw [hf]; exact ha)
    · split
      · rw [hf]; show p.told.any isP = decide (p.en = 2); rw [ha, h0]; rfl
      · split
        · exact settle_crash _ _ rfl (h.panics _) (by unfold phase_; dsimp only; rw [hf]; exact ha)
        · split
          · unfold recoverM
            split
            · split
              · show (p.told ++ [_]).any isP = decide (p.en = 2)
                rw [any_snoc ha, h0]; rfl
              · show (p.told ++ [_]).any isP = decide (p.en = 2)
                rw [any_snoc ha, h0]; rfl
            · show (p.told ++ [_]).any isP = decide (p.en = 2)
              rw [any_snoc ha, h0]; rfl
          · show (p.told ++ [_]).any isP = _
            rw [any_snoc ha]; rfl
theorem all_crash : ∀ (l : List EventM) (S : PlM), Good S → S.told = [] → S.en ≠ 2 → ∀ R, (S :: statesM S l)[(statesM S l).length]? = some R → (allM S l).any (·.any isP) = decide (R.en = 2)
  | [], S, hG, hT, h2, R, hR => by
    have e : S = R := by simpa [statesM] using hR
    subst e
    rw [decide_eq_false h2]; rfl
  | e :: l, S, hG, hT, h2, R, hR => by
    unfold allM
    unfold statesM at hR
    by_cases he : S.en = 0
    · rw [if_pos he] at hR ⊢
      rw [List.length_cons, List.getElem?_cons_succ] at hR
      have h1 := next_good (hG.runs he) e
      have hc := event_crash (hG.runs he) hT e
      rw [List.any_cons]
      show ((eventM S e).told.any isP || _) = _
      rw [hc]
      by_cases h3 : (eventM S e).en = 2
      · rw [decide_eq_true h3]
        have hs : statesM (nextM S e) l = [] := by
          cases l with
          | nil => rfl
          | cons _ _ => unfold statesM; rw [if_neg (show ¬ (nextM S e).en = 0 from fun hh => by have h4 : (eventM S e).en = 0 := hh; rw [h3] at h4; exact absurd h4 (by decide))]
        rw [hs] at hR
        have e2 : nextM S e = R := by simpa using hR
        subst e2
        show true = decide ((eventM S e).en = 2)
        rw [decide_eq_true h3]
      · rw [decide_eq_false h3, Bool.false_or]
        exact all_crash l _ h1 rfl h3 R hR
    · rw [if_neg he] at hR ⊢
      have e2 : S = R := by simpa using hR
      subst e2
      rw [decide_eq_false h2]; rfl

/-! ### without a panic -/
def isQ (t : TellM) : Bool := decide (t.kind = 5) || decide (t.kind = 4) || (decide (t.n = 2) && decide (t.kind = 7))
/-- No panic is there, none was told of. -/
structure Qt (p : PlM) : Prop where
  pn : p.pn = []
  td : p.told.any isQ = false
theorem Qt.snoc {p q : PlM} {t : TellM} (h : Qt p) (h1 : q.pn = []) (h2 : q.told = p.told ++ [t]) (h3 : isQ t = false) : Qt q := ⟨h1, by rw [h2, any_snoc h.td, h3]⟩
theorem start_quiet {p : PlM} {f : FrameM} {r : List FrameM} (h : Qt p) : Qt (startM p f r) := by
  unfold startM
  split
  · exact h.snoc h.pn rfl rfl
  · exact h.snoc h.pn rfl (by unfold isQ; simp)
theorem settle_quiet : ∀ (n : Nat) (p : PlM), p.fr.length = n → Ends p → Qt p → Qt (settleN n p)
  | 0, p, hn, h, ht => absurd (List.eq_nil_of_length_eq_zero hn) h.ne
  | n + 1, p, hn, h, ht => by
    unfold settleN
    cases hf : p.fr with
    | nil => exact absurd hf h.ne
    | cons f r =>
      rw [hf] at hn
      have hl : Qt (p.left f r) := ht.snoc ht.pn rfl (by unfold isQ; simp)
      dsimp only
      split
      · exact start_quiet ht
      · rename_i hd
        split
        · rename_i hp
          cases r with
          | nil => exact hl.snoc ht.pn rfl rfl
          | cons g s =>
            dsimp only
            split
            · rename_i hm
              have : lastRec p.pn = true := hm.2
              rw [ht.pn] at this
              exact absurd this (by decide)
            · rename_i hm
              split
              · exact hl
              · rename_i h0; exact settle_quiet n _ (by simpa [PlM.left] using hn) (h.leave hf hp hm h0) hl
        · rename_i hp
          exfalso
          rcases h.ph with h1 | h1
          · have := h1.1; rw [hf] at this; exact hp this
          · obtain ⟨q, r', hq, _⟩ := h1.2
            rw [ht.pn] at hq; cases hq
theorem event_quiet {p : PlM} (h : Runs p) (hq : Qt p) (e : EventM) (he : e.kind ≠ 4) : Qt (eventM p e) := by
  unfold eventM
  obtain ⟨f, r, hf⟩ : ∃ f r, p.fr = f :: r := by
    cases hp : p.fr with
    | nil => exact absurd hp h.ne
    | cons f r => exact ⟨f, r, rfl⟩
  split
  · split
    · exact hq.snoc hq.pn rfl rfl
    · exact hq.snoc hq.pn rfl (by unfold isQ; simp)
  · split
    · exact settle_quiet _ _ rfl h.returns (by unfold phase_; rw [hf]; exact ⟨hq.pn, hq.td⟩)
    · split
      · rw [hf]; exact ⟨hq.pn, hq.td⟩
      · split
        · unfold recoverM
          split
          · rename_i hq2; rw [hq.pn] at hq2; cases hq2
          · exact hq.snoc hq.pn rfl rfl
        · exact hq.snoc hq.pn rfl rfl
theorem states_quiet : ∀ (l : List EventM) (S : PlM), (∀ e ∈ l, e.kind ≠ 4) → Good S → S.told = [] → S.pn = [] → (∀ R ∈ statesM S l, R.pn = []) ∧ ∀ T ∈ allM S l, T.any isQ = false
  | [], S, _, _, _, _ => ⟨fun R h => by simp [statesM] at h, fun R h => by simp [allM] at h⟩
  | e :: l, S, hk, hG, hT, hP => by
    unfold statesM allM
    by_cases he : S.en = 0
    · rw [if_pos he, if_pos he]
      have h1 := next_good (hG.runs he) e
      have hq := event_quiet (hG.runs he) ⟨hP, by rw [hT]; rfl⟩ e (hk e (List.mem_cons_self ..))
      obtain ⟨i1, i2⟩ := states_quiet l (nextM S e) (fun x hx => hk x (List.mem_cons_of_mem _ hx)) h1 rfl hq.pn
      refine ⟨fun R hR => ?_, fun T hT => ?_⟩
      · rcases List.mem_cons.1 hR with rfl | hR
        · exact hq.pn
        · exact i1 R hR
      · rcases List.mem_cons.1 hT with rfl | hT
        · exact hq.td
        · exact i2 T hT
    · rw [if_neg he, if_neg he]
      exact ⟨fun R h => by simp at h, fun R h => by simp at h⟩
theorem start_tlen {p : PlM} {f : FrameM} {r : List FrameM} : (startM p f r).told.length ≤ p.told.length + 1 := by
  unfold startM
  split
  · show (p.told ++ [_]).length ≤ _; simp
  · show (p.told ++ [_]).length ≤ _; simp
theorem settle_tlen : ∀ (n : Nat) (p : PlM), (settleN n p).told.length ≤ p.told.length + n + 1
  | 0, p => by show p.told.length ≤ _; omega
  | n + 1, p => by
    unfold settleN
    cases hf : p.fr with
    | nil => dsimp only; omega
    | cons f r =>
      dsimp only
      have hs : ∀ t : TellM, (p.told ++ [t]).length = p.told.length + 1 := fun t => by simp
      split
      · have := start_tlen (p := p) (f := f) (r := r); omega
      · split
        · cases r with
          | nil => show (p.told ++ [_] ++ [_]).length ≤ _; simp only [List.length_append, List.length_cons, List.length_nil]; omega
          | cons g s =>
            dsimp only
            split
            · refine Nat.le_trans (settle_tlen n _) ?_
              show (p.told ++ [_]).length + n + 1 ≤ _; rw [hs]; omega
            · split
              · show (p.told ++ [_]).length ≤ _; rw [hs]; omega
              · refine Nat.le_trans (settle_tlen n _) ?_
                show (p.told ++ [_]).length + n + 1 ≤ _; rw [hs]; omega
        · cases r with
          | nil => show (p.told ++ [_] ++ [_]).length ≤ _; simp only [List.length_append, List.length_cons, List.length_nil]; omega
          | cons g s =>
            refine Nat.le_trans (settle_tlen n _) ?_
            show (p.told ++ [_]).length + n + 1 ≤ _; rw [hs]; omega
theorem phase_tlen (p : PlM) (ph : Int) : (phase_ p ph).told = p.told ∧ (phase_ p ph).fr.length = p.fr.length := by
  unfold phase_
  cases hf : p.fr with
  | nil => exact ⟨rfl, by rw [hf]⟩
  | cons f r => exact ⟨rfl, rfl⟩
theorem event_tlen (p : PlM) (e : EventM) (h : p.fr.length ≤ 30) (ht : p.told = []) : (eventM p e).told.length ≤ 40 := by
  have h0 : p.told.length = 0 := by rw [ht]; rfl
  have hs : ∀ t : TellM, (p.told ++ [t]).length = 1 := fun t => by simp [ht]
  unfold eventM
  split
  · split
    · show (p.told ++ [_]).length ≤ _; rw [hs]; omega
    · show (p.told ++ [_]).length ≤ _; rw [hs]; omega
  · split
    · unfold settleM
      have h1 := settle_tlen (phase_ p 1).fr.length (phase_ p 1)
      rw [(phase_tlen p 1).1] at h1
      have := (phase_tlen p 1).2
      omega
    · split
      · split
        · omega
        · show p.told.length ≤ _; omega
      · split
        · unfold settleM
          have h1 := settle_tlen (phase_ { p with pn := ⟨p.ser, plainM e.v, false, false⟩ :: p.pn, ser := p.ser + 1 } 2).fr.length (phase_ { p with pn := ⟨p.ser, plainM e.v, false, false⟩ :: p.pn, ser := p.ser + 1 } 2)
          have h2 := phase_tlen { p with pn := ⟨p.ser, plainM e.v, false, false⟩ :: p.pn, ser := p.ser + 1 } 2
          rw [h2.1] at h1
          have h3 := h2.2
          dsimp only at h1 h3
          omega
        · split
          · unfold recoverM
            split
            · split
              · show (p.told ++ [_]).length ≤ _; rw [hs]; omega
              · show (p.told ++ [_]).length ≤ _; rw [hs]; omega
            · show (p.told ++ [_]).length ≤ _; rw [hs]; omega
          · show (p.told ++ [_]).length ≤ _; rw [hs]; omega
theorem all_tlen : ∀ (l : List EventM) (S : PlM) (k : Nat), Gr k S → S.told = [] → ∀ T ∈ allM S l, T.length ≤ 40
  | [], S, k, hg, hT, T, h => by simp [allM] at h
  | e :: l, S, k, hg, hT, T, h => by
    unfold allM at h
    by_cases he : S.en = 0
    · rw [if_pos he] at h
      rcases List.mem_cons.1 h with rfl | h
      · exact event_tlen S e hg.fl hT
      · exact all_tlen l _ (k + 1) (hg.next e) rfl T h
    · rw [if_neg he] at h; cases h
theorem Good.over {p : PlM} (h : Good p) (he : p.en ≠ 0) : Over p := by
  rcases h with h | h
  · exact absurd h.en0 he
  · exact h
end Go.Proofs.Ytiicdknmoakocaa
