/-
  As XRegionP, where a phase may tell of the value of an operation that is always done by then. No condition.
-/
import Derived.Test.YtgonekmmbeedeaaRegionP
namespace Go.Proofs.Ytgonekmmbeedeaa
open Go.RowKit
set_option linter.unusedVariables false

theorem wp_region_phaseX {P : Program} {ops : Array Oper} {Q : Exit → Act → World → Prop} {id : Nat} {a0 : Act} {w : World} (Ms : List Nat) (ph : List (Nat × Nat)) (T : World → World → Prop) (D : List (List Nat)) (G : Nat → (Nat → Value) → World → Prop) (Rl : List (Value → World → Prop)) (hm : P.follows .mixedOrders = true) (hn : nodupB (dstsOf ops.toList) = true) (he : edgesOk ops (fun i => D.getD i []) = true) (hl : Rl.length = ops.size)
    (hMs : nodupB Ms = true) (hph : phB ops.size (ancOf D) Ms ph = true) (hT : ∀ w w', Kp w w' → T w w')
    (hw : G 0 (ownX ops.toList a0) w.drew) (hG : ∀ p x w w', Kp w w' → G p x w → G p x w') (hGx : ∀ p x i v w, i ∉ Ms → p ≤ (ph.getD i (0, 0)).2 → G p x w → G p (upd x i v) w) (hR : StabT T Rl)
    (hS : AllSteps (OpStepQ P ops Q a0 D Ms ph G Rl T) 0 ops.toList)
    (hE : ∀ x w, G Ms.length x w → EndAll x w 0 Rl → EndGoal Q (putsFrom ops.toList 0 x a0) w) :
    (Code.region id ops true).wp P Q a0 w := by
  have hMn := nodup_of hMs
  unfold phB at hph
  rw [Bool.and_eq_true] at hph
  obtain ⟨hph1, hph2⟩ := hph
  have hM : ∀ k, k < Ms.length → Ms.getD k 0 < ops.size ∧ (k = 0 ∨ ((ancOf D).getD (Ms.getD k 0) 0).testBit (Ms.getD (k - 1) 0) = true) := by
    intro k hk
    have := List.all_eq_true.1 hph2 k (List.mem_range.2 hk)
    simpa using this
  refine wp_region_inv a0 (fun i => D.getD i []) (fun ls x w => (∀ i j, ls i = true → j ∈ D.getD i [] → ls j = true) ∧ (∃ p, p ≤ Ms.length ∧ (∀ k, k < Ms.length → ls (Ms.getD k 0) = decide (k < p)) ∧ G p x w) ∧ ∀ j, j < ops.size → ls j = true → relAt Rl j (x j) w) hm (nodup_of hn) he
    ⟨fun i j h => by (cases h), ⟨0, Nat.zero_le _, fun k _ => by simp, hw⟩, fun j _ h => by (cases h)⟩ ?_ ?_
  · intro i o ls x w ho hli hd hI K hK
    obtain ⟨hcl, ⟨p, hp, hpk, hg⟩, hrel⟩ := hI
    have his : i < ops.size := (Array.getElem?_eq_some_iff.1 ho).1
    have hcl' : ∀ i' j, mark ls i i' = true → j ∈ D.getD i' [] → mark ls i j = true := by
      intro i' j h1 h2
      unfold mark at h1 ⊢
      by_cases hj : j = i
      · rw [if_pos hj]
      · rw [if_neg hj]
        by_cases hi : i' = i
        · subst hi; exact hd j h2
        · rw [if_neg hi] at h1; exact hcl i' j h1 h2
    have hst := AllSteps.at_ hS (i := i) (by rw [Array.getElem?_toList]; exact ho)
    rw [Nat.zero_add] at hst
    unfold OpStepQ at hst
    have hdeps : DepsAll Rl x w (D.getD i []) := DepsAll.of fun j hj => by
      obtain ⟨e, he1, he2, he3⟩ := (edges_at he ho).2 j hj
      have := (edges_at he ho).1 e he1 he2
      exact hrel j (by omega) (hd j hj)
    by_cases hiM : i ∈ Ms
    · rw [if_pos (by rw [List.contains_iff_mem]; exact hiM)] at hst
      have hk : Ms.idxOf i < Ms.length := List.idxOf_lt_length_of_mem hiM
      have hget : Ms.getD (Ms.idxOf i) 0 = i := by
        rw [List.getD_eq_getElem?_getD, List.getElem?_eq_getElem hk]; exact List.getElem_idxOf hk
      have e1 : p = Ms.idxOf i := by
        have h1 := hpk _ hk
        rw [hget, hli] at h1
        have h1 := of_decide_eq_false h1.symm
        rcases Nat.eq_zero_or_pos (Ms.idxOf i) with h0 | h0
        · omega
        · have h2 := (hM _ hk).2
          rcases h2 with h2 | h2
          · omega
          · rw [hget] at h2
            have h3 := anc_ok hcl i hd _ h2
            rw [hpk _ (by omega)] at h3
            have := of_decide_eq_true h3
            omega
      subst e1
      refine (hst x w hg hdeps K (fun v w' ht hg' hv => hK v w' ⟨hcl', ⟨Ms.idxOf i + 1, hk, fun k hk' => ?_, hg'⟩, fun j hj hm' => ?_⟩)).go
      · unfold mark
        by_cases hki : k = Ms.idxOf i
        · subst hki; rw [if_pos hget]; simp
        · have hne : Ms.getD k 0 ≠ i := by
            intro h
            apply hki
            have h5 : Ms[k]'hk' = i := by rw [List.getD_eq_getElem?_getD, List.getElem?_eq_getElem hk'] at h; exact h
            rw [← h5, hMn.idxOf_getElem]
          rw [if_neg hne, hpk k hk']
          congr 1
          simp only [eq_iff_iff]; omega
      · by_cases hji : j = i
        · subst hji; unfold upd; rw [if_pos rfl]; exact hv
        · unfold mark at hm'; rw [if_neg hji] at hm'
          unfold upd; rw [if_neg hji]
          exact hR.at_ j _ _ _ ht (hrel j hj hm')
    · rw [if_neg (by rw [List.contains_iff_mem]; exact hiM)] at hst
      have h1 := List.all_eq_true.1 hph1 i (List.mem_range.2 his)
      rw [Bool.or_eq_true, List.contains_iff_mem] at h1
      have h1 := h1.resolve_left hiM
      rw [Bool.and_eq_true, Bool.or_eq_true, Bool.or_eq_true, Bool.and_eq_true, Bool.and_eq_true] at h1
      simp only [decide_eq_true_eq] at h1
      obtain ⟨h1, h2⟩ := h1
      have hpp : (ph.getD i (0, 0)).1 ≤ p ∧ p ≤ (ph.getD i (0, 0)).2 := by
        constructor
        · rcases h1 with h1 | ⟨h1, h3⟩
          · omega
          · rcases Nat.eq_zero_or_pos (ph.getD i (0, 0)).1 with h0 | h0
            · omega
            · have h4 := anc_ok hcl i hd _ h3
              rw [hpk _ (by omega)] at h4
              have := of_decide_eq_true h4
              omega
        · rcases h2 with h2 | ⟨h2, h3⟩
          · omega
          · rcases Nat.lt_or_ge (ph.getD i (0, 0)).2 p with h4 | h4
            · exfalso
              have h5 := hpk _ h2
              rw [decide_eq_true h4] at h5
              have h6 := anc_ok hcl _ (fun j hj => hcl _ j h5 hj) _ h3
              rw [hli] at h6; cases h6
            · exact h4
      refine (hst x w p hpp hg hdeps K (fun v w' hk hv => hK v w' ⟨hcl', ⟨p, hp, fun k hk' => ?_, hGx _ _ _ _ _ hiM hpp.2 (hG _ _ _ _ hk hg)⟩, fun j hj hm' => ?_⟩)).go
      · have hne : Ms.getD k 0 ≠ i := by
          intro h
          apply hiM
          rw [← h, List.getD_eq_getElem?_getD, List.getElem?_eq_getElem hk']
          exact List.getElem_mem hk'
        unfold mark; rw [if_neg hne, hpk k hk']
      · by_cases hji : j = i
        · subst hji; unfold upd; rw [if_pos rfl]; exact hv
        · unfold mark at hm'; rw [if_neg hji] at hm'
          unfold upd; rw [if_neg hji]
          exact hR.at_ j _ _ _ (hT _ _ hk) (hrel j hj hm')
  · intro ls x w hall ⟨hcl, ⟨p, hp, hpk, hg⟩, hrel⟩
    have e : p = Ms.length := by
      rcases Nat.lt_or_ge p Ms.length with h | h
      · have h1 := hpk p h
        rw [hall _ (hM p h).1] at h1
        have := of_decide_eq_true h1.symm
        omega
      · omega
    subst e
    exact (hE x w hg (EndAll.of fun j hj => by rw [Nat.zero_add]; exact hrel j (by omega) (hall j (by omega)))).go
end Go.Proofs.Ytgonekmmbeedeaa
