/-
  What a whole list of events comes to, in plain Lean: the same as event by event. No condition.
-/
import Derived.Test.YtfholconiofgoaaPanN
namespace Go.Proofs.Ytfholconiofgoaa
set_option linter.unusedVariables false
set_option linter.unusedSimpArgs false

/-- More was told ahead. -/
def addT (T : List TellM) (p : PlM) : PlM := { p with told := T ++ p.told }
theorem start_add (T : List TellM) (p : PlM) (f : FrameM) (r : List FrameM) : startM (addT T p) f r = addT T (startM p f r) := by
  unfold startM
  show (if p.fr.length = 30 then _ else _) = _
  by_cases h : p.fr.length = 30
  · rw [if_pos h, if_pos h]; unfold PlM.over addT; simp
  · rw [if_neg h, if_neg h]; unfold addT; simp [startSer]
theorem settle_add (T : List TellM) : ∀ (n : Nat) (p : PlM), settleN n (addT T p) = addT T (settleN n p)
  | 0, p => rfl
  | n + 1, p => by
    unfold settleN
    show (match p.fr with | [] => _ | f :: r => _) = _
    cases hf : p.fr with
    | nil => rfl
    | cons f r =>
      dsimp only
      by_cases hd : f.defers ≠ []
      · rw [if_pos hd, if_pos hd, start_add]
      · rw [if_neg hd, if_neg hd]
        by_cases hp : f.phase = 1
        · rw [if_pos hp, if_pos hp]
          cases r with
          | nil => unfold PlM.left PlM.over addT; simp
          | cons g s =>
            dsimp only
            by_cases hm : f.mark = 2 ∧ lastRec p.pn = true
            · rw [if_pos (show f.mark = 2 ∧ lastRec (addT T p).pn = true from hm), if_pos hm, ← settle_add T n]
              congr 1
              unfold PlM.left addT; simp
            · rw [if_neg (show ¬ (f.mark = 2 ∧ lastRec (addT T p).pn = true) from hm), if_neg hm]
              by_cases h0 : f.mark = 0
              · rw [if_pos h0, if_pos h0]; unfold PlM.left addT; simp
              · rw [if_neg h0, if_neg h0, ← settle_add T n]
                congr 1
                unfold PlM.left addT; simp
        · rw [if_neg hp, if_neg hp]
          cases r with
          | nil => unfold PlM.passed PlM.over addT; simp
          | cons g s =>
            dsimp only
            rw [← settle_add T n]
            congr 1
            unfold PlM.passed addT; simp
theorem phase_add (T : List TellM) (p : PlM) (ph : Int) : phase_ (addT T p) ph = addT T (phase_ p ph) := by
  unfold phase_
  show (match p.fr with | [] => _ | f :: r => _) = _
  cases hf : p.fr <;> rfl
theorem event_add (T : List TellM) (p : PlM) (e : EventM) : eventM (addT T p) e = addT T (eventM p e) := by
  unfold eventM
  by_cases h1 : e.kind = 1
  · rw [if_pos h1, if_pos h1]
    by_cases hl : p.fr.length = 30
    · rw [if_pos (show (addT T p).fr.length = 30 from hl), if_pos hl]; unfold PlM.over addT; simp
    · rw [if_neg (show ¬ (addT T p).fr.length = 30 from hl), if_neg hl]; unfold PlM.grow PlM.tell addT; simp
  rw [if_neg h1, if_neg h1]
  by_cases h2 : e.kind = 2
  · rw [if_pos h2, if_pos h2]
    unfold settleM
    rw [phase_add, settle_add]; rfl
  rw [if_neg h2, if_neg h2]
  by_cases h3 : e.kind = 3
  · rw [if_pos h3, if_pos h3]
    show (match p.fr with | [] => _ | f :: r => _) = _
    cases hf : p.fr <;> rfl
  rw [if_neg h3, if_neg h3]
  by_cases h4 : e.kind = 4
  · rw [if_pos h4, if_pos h4]
    have e1 : ({ addT T p with pn := ⟨(addT T p).ser, plainM e.v, false, false⟩ :: (addT T p).pn, ser := (addT T p).ser + 1 } : PlM) = addT T { p with pn := ⟨p.ser, plainM e.v, false, false⟩ :: p.pn, ser := p.ser + 1 } := rfl
    rw [e1]
    unfold settleM
    rw [phase_add, settle_add]; rfl
  rw [if_neg h4, if_neg h4]
  by_cases h5 : e.kind = 5
  · rw [if_pos h5, if_pos h5]
    unfold recoverM
    show (match p.fr, p.pn with | f :: r, q :: s => _ | _, _ => _) = _
    cases hf : p.fr with
    | nil => unfold addT; simp [hf]
    | cons f r =>
      cases hp : p.pn with
      | nil => unfold addT; simp [hf, hp]
      | cons q s =>
        dsimp only
        split
        · unfold addT; simp [hf, hp]
        · unfold addT; simp [hf, hp]
  rw [if_neg h5, if_neg h5]
  unfold PlM.over addT; simp
/-- A whole list of events. -/
def playN : PlM → List EventM → PlM
  | p, [] => p
  | p, e :: l => if p.en = 0 then playN (eventM p e) l else p
theorem playN_stop {p : PlM} (h : p.en ≠ 0) : ∀ l, playN p l = p
  | [] => rfl
  | e :: l => by unfold playN; rw [if_neg h]
theorem playN_snoc : ∀ (l : List EventM) (p : PlM) (e : EventM), playN p (l ++ [e]) = if (playN p l).en = 0 then eventM (playN p l) e else playN p l
  | [], p, e => by
    show playN p [e] = if p.en = 0 then eventM p e else p
    unfold playN playN; rfl
  | x :: l, p, e => by
    rw [List.cons_append]
    unfold playN
    by_cases h : p.en = 0
    · rw [if_pos h, if_pos h]; exact playN_snoc l _ e
    · rw [if_neg h, if_neg h, if_neg h]
theorem playN_append : ∀ (l r : List EventM) (p : PlM), (playN p l).en ≠ 0 → playN p (l ++ r) = playN p l
  | [], r, p, h => playN_stop h r
  | x :: l, r, p, h => by
    rw [List.cons_append]
    unfold playN at h ⊢
    by_cases h0 : p.en = 0
    · rw [if_pos h0] at h ⊢; rw [if_pos h0]; exact playN_append l r _ h
    · rw [if_neg h0, if_neg h0]
/-- The last state. -/
def lastM : PlM → List EventM → PlM
  | p, [] => p
  | p, e :: l => if p.en = 0 then lastM (nextM p e) l else p
theorem lastM_at : ∀ (l : List EventM) (S : PlM), (S :: statesM S l)[(statesM S l).length]? = some (lastM S l)
  | [], S => rfl
  | e :: l, S => by
    unfold statesM lastM
    by_cases h : S.en = 0
    · rw [if_pos h, if_pos h, List.length_cons, List.getElem?_cons_succ]; exact lastM_at l _
    · rw [if_neg h, if_neg h]; rfl
theorem play_all : ∀ (l : List EventM) (S : PlM) (T : List TellM), S.told = [] → playN (addT T S) l = addT (T ++ (allM S l).flatten) (lastM S l)
  | [], S, T, h => by unfold playN allM lastM; simp
  | e :: l, S, T, h => by
    unfold playN allM lastM
    by_cases h0 : S.en = 0
    · rw [if_pos (show (addT T S).en = 0 from h0), if_pos h0, if_pos h0, event_add]
      have e1 : addT T (eventM S e) = addT (T ++ tellsM S e) (nextM S e) := by unfold addT nextM noTold tellsM; simp
      rw [e1, play_all l (nextM S e) _ rfl, List.flatten_cons, List.append_assoc]
    · rw [if_neg (show ¬ (addT T S).en = 0 from h0), if_neg h0, if_neg h0]; simp
theorem lastM_good : ∀ (l : List EventM) (S : PlM) (k : Nat), Good S → Gr k S → S.told = [] → Good (lastM S l) ∧ Gr (k + l.length) (lastM S l) ∧ (lastM S l).told = []
  | [], S, k, h, hg, ht => ⟨h, hg, ht⟩
  | e :: l, S, k, h, hg, ht => by
    unfold lastM
    by_cases h0 : S.en = 0
    · rw [if_pos h0]
      have := lastM_good l (nextM S e) (k + 1) (next_good (h.runs h0) e) (hg.next e) rfl
      have hl : k + (e :: l).length = k + 1 + l.length := by rw [List.length_cons]; omega
      rw [hl]; exact this
    · rw [if_neg h0]
      exact ⟨h, ⟨hg.fl, hg.n0, by have := hg.n1; omega, hg.s0, by have := hg.s1; omega, by have := hg.pl; omega, fun f hf => by have := hg.df f hf; omega⟩, ht⟩
theorem flat_len {l : List (List TellM)} (h : ∀ T ∈ l, T.length ≤ 40) : l.flatten.length ≤ 40 * l.length := by
  induction l with
  | nil => simp
  | cons a l ih =>
    rw [List.flatten_cons, List.length_append, List.length_cons]
    have h1 := h a (List.mem_cons_self ..)
    have h2 := ih fun T hT => h T (List.mem_cons_of_mem _ hT)
    omega
theorem all_le' : ∀ (l : List EventM) (S : PlM), (allM S l).length ≤ l.length
  | [], _ => Nat.le_refl _
  | e :: l, S => by
    unfold allM
    by_cases he : S.en = 0
    · rw [if_pos he, List.length_cons, List.length_cons]; have := all_le' l (nextM S e); omega
    · rw [if_neg he]; exact Nat.zero_le _
/-- What stands on the way through a list. -/
theorem play_st {S : PlM} (hS : Good S) (hg : Gr 0 S) (ht : S.told = []) (l : List EventM) (hl : l.length ≤ 400) : ∃ R T, playN S l = addT T R ∧ Good R ∧ Gr 400 R ∧ R.told = [] ∧ T.length ≤ 16000 ∧ R = lastM S l ∧ T = (allM S l).flatten := by
  have h := play_all l S [] ht
  have e1 : addT [] S = S := by unfold addT; simp
  rw [e1, List.nil_append] at h
  obtain ⟨g1, g2, g3⟩ := lastM_good l S 0 hS hg ht
  refine ⟨_, _, h, g1, ⟨g2.fl, g2.n0, by have := g2.n1; omega, g2.s0, by have := g2.s1; omega, by have := g2.pl; omega, fun f hf => by have := g2.df f hf; omega⟩, g3, ?_, rfl, rfl⟩
  have h1 := flat_len (all_tlen l S 0 hg ht)
  have h2 := all_le' l S
  omega
theorem Runs.addT {p : PlM} (h : Runs p) (T : List TellM) : Runs (addT T p) := ⟨⟨h.en0, h.ne, h.stk, h.ids, h.ris⟩, h.ph, h.ev⟩
end Go.Proofs.Ytfholconiofgoaa
