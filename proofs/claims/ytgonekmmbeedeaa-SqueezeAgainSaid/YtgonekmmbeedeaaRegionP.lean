/-
  A region that draws its order and holds calls that write, one behind the other: what the world is in each phase (ahead of the first, behind it, ..) is said once, and each operation is shown once. No condition.
-/
import Derived.Test.YtgonekmmbeedeaaRegionL
namespace Go.Proofs.Ytgonekmmbeedeaa
open Go.RowKit
set_option linter.unusedVariables false

/-- Of each operation: those that it waits for, also through others, as bits. -/
def ancs : List (List Nat) → List Nat → List Nat
  | [], acc => acc
  | d :: r, acc => ancs r (acc ++ [d.foldl (fun m j => m ||| (1 <<< j) ||| acc.getD j 0) 0])
def ancOf (D : List (List Nat)) : List Nat := ancs D []
theorem fold_bit (acc : List Nat) : ∀ (d : List Nat) (m k : Nat), (d.foldl (fun m j => m ||| (1 <<< j) ||| acc.getD j 0) m).testBit k = true → m.testBit k = true ∨ ∃ j ∈ d, k = j ∨ (acc.getD j 0).testBit k = true
  | [], m, k, h => .inl h
  | j :: d, m, k, h => by
    rcases fold_bit acc d _ k h with h | ⟨j', h1, h2⟩
    · rw [Nat.testBit_or, Nat.testBit_or, Bool.or_eq_true, Bool.or_eq_true] at h
      rcases h with (h | h) | h
      · exact .inl h
      · refine .inr ⟨j, List.mem_cons_self .., .inl ?_⟩
        rw [Nat.one_shiftLeft, Nat.testBit_two_pow] at h
        exact (of_decide_eq_true h).symm
      · exact .inr ⟨j, List.mem_cons_self .., .inr h⟩
    · exact .inr ⟨j', List.mem_cons_of_mem _ h1, h2⟩
theorem ancs_ok {ls : Nat → Bool} {D : List (List Nat)} (hc : ∀ i j, ls i = true → j ∈ D.getD i [] → ls j = true) :
    ∀ (r : List (List Nat)) (acc : List Nat) (done : List (List Nat)), D = done ++ r → acc.length = done.length → (∀ i, (∀ j ∈ D.getD i [], ls j = true) → ∀ k, (acc.getD i 0).testBit k = true → ls k = true) →
      ∀ i, (∀ j ∈ D.getD i [], ls j = true) → ∀ k, ((ancs r acc).getD i 0).testBit k = true → ls k = true
  | [], acc, done, _, _, h => h
  | d :: r, acc, done, e, hl, h => by
    unfold ancs
    refine ancs_ok hc r _ (done ++ [d]) (by rw [e]; simp) (by simp [hl]) ?_
    intro i hi k hk
    rw [List.getD_eq_getElem?_getD] at hk
    rcases Nat.lt_or_ge i acc.length with h1 | h1
    · rw [List.getElem?_append_left h1, ← List.getD_eq_getElem?_getD] at hk
      exact h i hi k hk
    · rcases Nat.eq_or_lt_of_le h1 with h2 | h2
      · rw [List.getElem?_append_right h1, ← h2, Nat.sub_self] at hk
        simp only [List.getElem?_cons_zero, Option.getD_some] at hk
        have hd : D.getD i [] = d := by
          rw [e, List.getD_eq_getElem?_getD, List.getElem?_append_right (by omega), ← h2, hl, Nat.sub_self]; rfl
        rcases fold_bit acc d 0 k hk with h3 | ⟨j, h3, h4⟩
        · simp at h3
        · have hj := hi j (by rw [hd]; exact h3)
          rcases h4 with rfl | h4
          · exact hj
          · exact h j (fun j' hj' => hc j j' hj hj') k h4
      · rw [List.getElem?_eq_none (by simp; omega)] at hk
        simp at hk
theorem anc_ok {ls : Nat → Bool} {D : List (List Nat)} (hc : ∀ i j, ls i = true → j ∈ D.getD i [] → ls j = true) (i : Nat) (hi : ∀ j ∈ D.getD i [], ls j = true) (k : Nat) (hk : ((ancOf D).getD i 0).testBit k = true) : ls k = true :=
  ancs_ok hc D [] [] rfl rfl (fun i _ k h => by simp at h) i hi k hk
/-- The phases that an operation may run in; what writes stands in a row. -/
def phB (N : Nat) (A : List Nat) (Ms : List Nat) (ph : List (Nat × Nat)) : Bool :=
  ((List.range N).all fun i => (Ms.contains i) || ((decide ((ph.getD i (0, 0)).1 = 0) || (decide ((ph.getD i (0, 0)).1 ≤ Ms.length) && (A.getD i 0).testBit (Ms.getD ((ph.getD i (0, 0)).1 - 1) 0))) && (decide ((ph.getD i (0, 0)).2 = Ms.length) || (decide ((ph.getD i (0, 0)).2 < Ms.length) && (A.getD (Ms.getD (ph.getD i (0, 0)).2 0) 0).testBit i)))) &&
  ((List.range Ms.length).all fun k => decide (Ms.getD k 0 < N) && (decide (k = 0) || (A.getD (Ms.getD k 0) 0).testBit (Ms.getD (k - 1) 0)))
def OpStepQ (P : Program) (ops : Array Oper) (Q : Exit → Act → World → Prop) (a0 : Act) (D : List (List Nat)) (Ms : List Nat) (ph : List (Nat × Nat)) (G : Nat → (Nat → Value) → World → Prop) (Rl : List (Value → World → Prop)) (T : World → World → Prop) (i : Nat) (o : Oper) : Prop :=
  if Ms.contains i then
    ∀ (x : Nat → Value) (w : World), G (Ms.idxOf i) x w → DepsAll Rl x w (D.getD i []) → ∀ K : Act → World → Prop,
      Shut (∀ v w', T w w' → G (Ms.idxOf i + 1) (upd x i v) w' → relAt Rl i v w' → K ((putsFrom ops.toList 0 x a0).put o.dst v) w') →
      OpGoal P ops Q o (putsFrom ops.toList 0 x a0) w K
  else
    ∀ (x : Nat → Value) (w : World) (p : Nat), ((ph.getD i (0, 0)).1 ≤ p ∧ p ≤ (ph.getD i (0, 0)).2) → G p x w → DepsAll Rl x w (D.getD i []) → ∀ K : Act → World → Prop,
      Shut (∀ v w', Kp w w' → relAt Rl i v w' → K ((putsFrom ops.toList 0 x a0).put o.dst v) w') →
      OpGoal P ops Q o (putsFrom ops.toList 0 x a0) w K
def StabT (T : World → World → Prop) : List (Value → World → Prop) → Prop
  | [] => True
  | r :: l => (∀ v w w', T w w' → r v w → r v w') ∧ StabT T l
theorem StabT.at_ {T : World → World → Prop} : ∀ {l : List (Value → World → Prop)} (j : Nat), StabT T l → ∀ v w w', T w w' → relAt l j v w → relAt l j v w'
  | [], _, _, _, _, _, _, _ => trivial
  | r :: l, 0, h, v, w, w', hk, hr => h.1 v w w' hk hr
  | r :: l, j + 1, h, v, w, w', hk, hr => StabT.at_ j h.2 v w w' hk hr
theorem wp_region_phase {P : Program} {ops : Array Oper} {Q : Exit → Act → World → Prop} {id : Nat} {a0 : Act} {w : World} (Ms : List Nat) (ph : List (Nat × Nat)) (T : World → World → Prop) (D : List (List Nat)) (G : Nat → (Nat → Value) → World → Prop) (Rl : List (Value → World → Prop)) (hm : P.follows .mixedOrders = true) (hn : nodupB (dstsOf ops.toList) = true) (he : edgesOk ops (fun i => D.getD i []) = true) (hl : Rl.length = ops.size)
    (hMs : nodupB Ms = true) (hph : phB ops.size (ancOf D) Ms ph = true) (hT : ∀ w w', Kp w w' → T w w')
    (hw : G 0 (ownX ops.toList a0) w.drew) (hG : ∀ p x w w', Kp w w' → G p x w → G p x w') (hGx : ∀ p x i v w, i ∉ Ms → G p x w → G p (upd x i v) w) (hR : StabT T Rl)
    (hS : AllSteps (OpStepQ P ops Q a0 D Ms ph G Rl T) 0 ops.toList)
    (hE : ∀ x w, G Ms.length x w → EndAll x w 0 Rl → EndGoal Q (putsFrom ops.toList 0 x a0) w) :
    (Code.region id ops true).wp P Q a0 w := by
  have hMn := nodup_of hMs
  unfold phB at hph
  rw [Bool.and_eq_true] at hph
  obtain ⟨hph1, hph2⟩ := hph
  have hM : ∀ k, k < Ms.length → Ms.getD k 0 < ops.size ∧ (k = 0 ∨ ((ancOf D).getD (Ms.getD k 0) 0).testBit (Ms.getD (k - 1) 0) = true) := by
    intro k hk
    have := List.all_eq_true.1 hph2 k (List.mem_range.2 hk)
    simpa using this
  refine wp_region_inv a0 (fun i => D.getD i []) (fun ls x w => (∀ i j, ls i = true → j ∈ D.getD i [] → ls j = true) ∧ (∃ p, p ≤ Ms.length ∧ (∀ k, k < Ms.length → ls (Ms.getD k 0) = decide (k < p)) ∧ G p x w) ∧ ∀ j, j < ops.size → ls j = true → relAt Rl j (x j) w) hm (nodup_of hn) he
    ⟨fun i j h => by (cases h), ⟨0, Nat.zero_le _, fun k _ => by simp, hw⟩, fun j _ h => by (cases h)⟩ ?_ ?_
  · intro i o ls x w ho hli hd hI K hK
    obtain ⟨hcl, ⟨p, hp, hpk, hg⟩, hrel⟩ := hI
    have his : i < ops.size := (Array.getElem?_eq_some_iff.1 ho).1
    have hcl' : ∀ i' j, mark ls i i' = true → j ∈ D.getD i' [] → mark ls i j = true := by
      intro i' j h1 h2
      unfold mark at h1 ⊢
      by_cases hj : j = i
      · rw [if_pos hj]
      · rw [if_neg hj]
        by_cases hi : i' = i
        · subst hi; exact hd j h2
        · rw [if_neg hi] at h1; exact hcl i' j h1 h2
    have hst := AllSteps.at_ hS (i := i) (by rw [Array.getElem?_toList]; exact ho)
    rw [Nat.zero_add] at hst
    unfold OpStepQ at hst
    have hdeps : DepsAll Rl x w (D.getD i []) := DepsAll.of fun j hj => by
      obtain ⟨e, he1, he2, he3⟩ := (edges_at he ho).2 j hj
      have := (edges_at he ho).1 e he1 he2
      exact hrel j (by omega) (hd j hj)
    by_cases hiM : i ∈ Ms
    · rw [if_pos (by rw [List.contains_iff_mem]; exact hiM)] at hst
      have hk : Ms.idxOf i < Ms.length := List.idxOf_lt_length_of_mem hiM
      have hget : Ms.getD (Ms.idxOf i) 0 = i := by
        rw [List.getD_eq_getElem?_getD, List.getElem?_eq_getElem hk]; exact List.getElem_idxOf hk
      have e1 : p = Ms.idxOf i := by
        have h1 := hpk _ hk
        rw [hget, hli] at h1
        have h1 := of_decide_eq_false h1.symm
        rcases Nat.eq_zero_or_pos (Ms.idxOf i) with h0 | h0
        · omega
        · have h2 := (hM _ hk).2
          rcases h2 with h2 | h2
          · omega
          · rw [hget] at h2
            have h3 := anc_ok hcl i hd _ h2
            rw [hpk _ (by omega)] at h3
            have := of_decide_eq_true h3
            omega
      subst e1
      refine (hst x w hg hdeps K (fun v w' ht hg' hv => hK v w' ⟨hcl', ⟨Ms.idxOf i + 1, hk, fun k hk' => ?_, hg'⟩, fun j hj hm' => ?_⟩)).go
      · unfold mark
        by_cases hki : k = Ms.idxOf i
        · subst hki; rw [if_pos hget]; simp
        · have hne : Ms.getD k 0 ≠ i := by
            intro h
            apply hki
            have h5 : Ms[k]'hk' = i := by rw [List.getD_eq_getElem?_getD, List.getElem?_eq_getElem hk'] at h; exact h
            rw [← h5, hMn.idxOf_getElem]
          rw [if_neg hne, hpk k hk']
          congr 1
          simp only [eq_iff_iff]; omega
      · by_cases hji : j = i
        · subst hji; unfold upd; rw [if_pos rfl]; exact hv
        · unfold mark at hm'; rw [if_neg hji] at hm'
          unfold upd; rw [if_neg hji]
          exact hR.at_ j _ _ _ ht (hrel j hj hm')
    · rw [if_neg (by rw [List.contains_iff_mem]; exact hiM)] at hst
      have h1 := List.all_eq_true.1 hph1 i (List.mem_range.2 his)
      rw [Bool.or_eq_true, List.contains_iff_mem] at h1
      have h1 := h1.resolve_left hiM
      rw [Bool.and_eq_true, Bool.or_eq_true, Bool.or_eq_true, Bool.and_eq_true, Bool.and_eq_true] at h1
      simp only [decide_eq_true_eq] at h1
      obtain ⟨h1, h2⟩ := h1
      have hpp : (ph.getD i (0, 0)).1 ≤ p ∧ p ≤ (ph.getD i (0, 0)).2 := by
        constructor
        · rcases h1 with h1 | ⟨h1, h3⟩
          · omega
          · rcases Nat.eq_zero_or_pos (ph.getD i (0, 0)).1 with h0 | h0
            · omega
            · have h4 := anc_ok hcl i hd _ h3
              rw [hpk _ (by omega)] at h4
              have := of_decide_eq_true h4
              omega
        · rcases h2 with h2 | ⟨h2, h3⟩
          · omega
          · rcases Nat.lt_or_ge (ph.getD i (0, 0)).2 p with h4 | h4
            · exfalso
              have h5 := hpk _ h2
              rw [decide_eq_true h4] at h5
              have h6 := anc_ok hcl _ (fun j hj => hcl _ j h5 hj) _ h3
              rw [hli] at h6; cases h6
            · exact h4
      refine (hst x w p hpp hg hdeps K (fun v w' hk hv => hK v w' ⟨hcl', ⟨p, hp, fun k hk' => ?_, hGx _ _ _ _ _ hiM (hG _ _ _ _ hk hg)⟩, fun j hj hm' => ?_⟩)).go
      · have hne : Ms.getD k 0 ≠ i := by
          intro h
          apply hiM
          rw [← h, List.getD_eq_getElem?_getD, List.getElem?_eq_getElem hk']
          exact List.getElem_mem hk'
        unfold mark; rw [if_neg hne, hpk k hk']
      · by_cases hji : j = i
        · subst hji; unfold upd; rw [if_pos rfl]; exact hv
        · unfold mark at hm'; rw [if_neg hji] at hm'
          unfold upd; rw [if_neg hji]
          exact hR.at_ j _ _ _ (hT _ _ hk) (hrel j hj hm')
  · intro ls x w hall ⟨hcl, ⟨p, hp, hpk, hg⟩, hrel⟩
    have e : p = Ms.length := by
      rcases Nat.lt_or_ge p Ms.length with h | h
      · have h1 := hpk p h
        rw [hall _ (hM p h).1] at h1
        have := of_decide_eq_true h1.symm
        omega
      · omega
    subst e
    exact (hE x w hg (EndAll.of fun j hj => by rw [Nat.zero_add]; exact hrel j (by omega) (hall j (by omega)))).go
theorem OpStepQ.off {P : Program} {ops : Array Oper} {Q : Exit → Act → World → Prop} {a0 : Act} {D : List (List Nat)} {Ms : List Nat} {ph : List (Nat × Nat)} {G : Nat → (Nat → Value) → World → Prop} {Rl : List (Value → World → Prop)} {T : World → World → Prop} {i : Nat} {o : Oper} (lo hi : Nat) (hc : Ms.contains i = false) (hp : ph.getD i (0, 0) = (lo, hi))
    (h : ∀ (x : Nat → Value) (w : World) (p : Nat), (lo ≤ p ∧ p ≤ hi) → G p x w → DepsAll Rl x w (D.getD i []) → ∀ K : Act → World → Prop,
      Shut (∀ v w', Kp w w' → relAt Rl i v w' → K ((putsFrom ops.toList 0 x a0).put o.dst v) w') →
      OpGoal P ops Q o (putsFrom ops.toList 0 x a0) w K) : OpStepQ P ops Q a0 D Ms ph G Rl T i o := by
  unfold OpStepQ; rw [if_neg (by rw [hc]; decide), hp]; exact h
theorem OpStepQ.on {P : Program} {ops : Array Oper} {Q : Exit → Act → World → Prop} {a0 : Act} {D : List (List Nat)} {Ms : List Nat} {ph : List (Nat × Nat)} {G : Nat → (Nat → Value) → World → Prop} {Rl : List (Value → World → Prop)} {T : World → World → Prop} {i : Nat} {o : Oper} (k : Nat) (hc : Ms.contains i = true) (hk : Ms.idxOf i = k)
    (h : ∀ (x : Nat → Value) (w : World), G k x w → DepsAll Rl x w (D.getD i []) → ∀ K : Act → World → Prop,
      Shut (∀ v w', T w w' → G (k + 1) (upd x i v) w' → relAt Rl i v w' → K ((putsFrom ops.toList 0 x a0).put o.dst v) w') →
      OpGoal P ops Q o (putsFrom ops.toList 0 x a0) w K) : OpStepQ P ops Q a0 D Ms ph G Rl T i o := by
  unfold OpStepQ; rw [if_pos hc, hk]; exact h
end Go.Proofs.Ytgonekmmbeedeaa
