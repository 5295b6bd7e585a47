/-
  The sources of the law ParseRanks: what they are read as. No condition.
-/
import Derived.Test.YtgonekmmbeedeaaParG
namespace Go.Proofs.Ytgonekmmbeedeaa.Pa
open Go.RowKit
set_option linter.unusedVariables false

/-- The cutting of a source, step by step. -/
noncomputable def runF (S : ByteArray) : Nat → CutM → Option (List TokenM)
  | 0, _ => none
  | n + 1, c => if S.size ≤ c.pos then (match lineEndM c with | .ok c => some c.out | .error _ => none) else match stepM S c with | .ok c => runF S n c | .error _ => none
theorem runF_runs {S : ByteArray} : ∀ (n : Nat) (c : CutM) (l : List TokenM), runF S n c = some l → Runs S c (.ok l)
  | 0, _, _, h => by cases h
  | n + 1, c, l, h => by
    rw [runF] at h
    split at h
    · rename_i hs
      have hf := Runs.fin (S := S) (c := c) hs
      cases hq : lineEndM c with
      | ok c2 =>
        rw [hq] at h hf
        injection h with h
        subst h
        exact hf
      | error e => rw [hq] at h; cases h
    · rename_i hs
      cases hq : stepM S c with
      | ok c2 =>
        rw [hq] at h
        exact .step (by omega) hq (runF_runs n c2 l h)
      | error e => rw [hq] at h; cases h
def signsL : List Bs := [[], [43], [45], [42], [47], [37], [60, 60], [62, 62], [38], [124], [94], [61, 61], [33, 61], [60], [60, 61], [62], [62, 61]]
def rankSrc (x y : Bs) : Bs := [102, 117, 110, 99, 32, 109, 97, 105, 110, 40, 41, 32, 123, 32, 120, 32, 58, 61, 32, 97, 32] ++ x ++ [32, 98, 32] ++ y ++ [32, 99, 32, 125]
def rankM (k : Nat) : Nat := if k = 1 ∨ k = 2 ∨ k = 9 ∨ k = 10 then 4 else if k = 3 ∨ k = 4 ∨ k = 5 ∨ k = 6 ∨ k = 7 ∨ k = 8 then 5 else 3
noncomputable def rankTree (x y : Bs) : Option (List NodeM) := match runF (sB (rankSrc x y)) 60 cut0 with
  | some lt => (match parseM (lt.map tkOf) with | .ok t => some (flat 0 t) | .error _ => none)
  | none => none
def isBin (n : NodeM) (s : Bs) : Bool := n.kind == 27 && n.text.data.toList == s
def rankOk (i j : Nat) (l : List NodeM) : Bool :=
  let x := signsL.getD i []; let y := signsL.getD j []
  l.length == 10 && (match l with
    | [_, _, _, n3, n4, n5, _, _, _, _] => if rankM i < rankM j then isBin n5 x && isBin n4 y else isBin n5 y && isBin n3 x
    | _ => false)
noncomputable def rankAll : Bool := (List.range 16).all fun i => (List.range 16).all fun j => match rankTree (signsL.getD (i + 1) []) (signsL.getD (j + 1) []) with | some l => rankOk (i + 1) (j + 1) l | none => false
theorem rank_all : rankAll = true := by decide +kernel
theorem rank_at {i j : Nat} (hi : 1 ≤ i) (hi2 : i ≤ 16) (hj : 1 ≤ j) (hj2 : j ≤ 16) : ∃ lt t, ToksM (sB (rankSrc (signsL.getD i []) (signsL.getD j []))) (.ok lt) ∧ parseM (lt.map tkOf) = .ok t ∧ rankOk i j (flat 0 t) = true := by
  have h := rank_all
  unfold rankAll at h
  rw [List.all_eq_true] at h
  have h := h (i - 1) (List.mem_range.2 (by omega))
  rw [List.all_eq_true] at h
  have h := h (j - 1) (List.mem_range.2 (by omega))
  rw [Nat.sub_add_cancel hi, Nat.sub_add_cancel hj] at h
  generalize hx : signsL.getD i [] = x at h ⊢
  generalize hy : signsL.getD j [] = y at h ⊢
  unfold rankTree at h
  cases hr : runF (sB (rankSrc x y)) 60 cut0 with
  | none => rw [hr] at h; simp at h
  | some lt =>
    rw [hr] at h
    simp only at h
    cases hp : parseM (lt.map tkOf) with
    | error e => rw [hp] at h; simp at h
    | ok t =>
      rw [hp] at h
      refine ⟨lt, t, ?_, hp, h⟩
      unfold ToksM
      rw [if_neg]
      · exact runF_runs _ _ _ hr
      · have hlx : ∀ k, k < 17 → (signsL.getD k []).length ≤ 2 := by decide
        have l1 := hlx i (by omega)
        have l2 := hlx j (by omega)
        rw [hx] at l1; rw [hy] at l2
        simp [sB, rankSrc, ByteArray.size]; omega
end Go.Proofs.Ytgonekmmbeedeaa.Pa
