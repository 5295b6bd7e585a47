/-
  A region that draws its order and ends in operations that stand in a row, each behind all the others (a call that writes, and what is done with its answer): each operation ahead of them is shown once, then the row is walked. No condition.
-/
import Derived.Test.YtgonekmmbeedeaaRegionL
import Derived.StillTail
namespace Go.Proofs.Ytgonekmmbeedeaa
open Go.RowKit
set_option linter.unusedVariables false

/-- Heads: each is waited for by a later one, up to the first of the row; the row stands in a row. -/
def tailB (ops : Array Oper) (N : Nat) (D : List (List Nat)) : Bool :=
  decide (N < ops.size) && lastB N D && ((List.range ops.size).all fun j => decide (j ≤ N) || (((ops[j]?).map fun o => o.after.any fun e => Region.binds .any e && e.on == j - 1).getD false)) && Region.seqB .any ops (ops.size - N) N (Array.replicate N true ++ Array.replicate (ops.size - N) false)
def listedOf (ops : Array Oper) (N : Nat) (ls : Nat → Bool) : Array Bool := Array.ofFn (n := ops.size) fun j => decide (j.1 < N) && ls j.1
theorem listedOf_get {ops : Array Oper} {N : Nat} {ls : Nat → Bool} {j : Nat} (h : j < ops.size) : (listedOf ops N ls)[j]? = some (decide (j < N) && ls j) := by
  unfold listedOf; rw [Array.getElem?_ofFn, dif_pos h]
theorem listedOf_size {ops : Array Oper} {N : Nat} {ls : Nat → Bool} : (listedOf ops N ls).size = ops.size := by unfold listedOf; simp
theorem listedOf_all {ops : Array Oper} {N : Nat} {ls : Nat → Bool} (hN : N ≤ ops.size) (h : ∀ j, j < N → ls j = true) : listedOf ops N ls = Array.replicate N true ++ Array.replicate (ops.size - N) false := by
  apply Array.ext
  · rw [listedOf_size]; simp; omega
  · intro i h1 h2
    rw [listedOf_size] at h1
    have := listedOf_get (N := N) (ls := ls) h1
    rw [Array.getElem?_eq_getElem (by rw [listedOf_size]; exact h1)] at this
    rw [Option.some.inj this]
    rw [Array.getElem_append]
    split
    · rename_i h3; simp at h3; rw [h i h3]; simp [h3]
    · rename_i h3; simp at h3; simp; omega
theorem listedOf_mark {ops : Array Oper} {N : Nat} {ls : Nat → Bool} {i : Nat} (hi : i < N) : (listedOf ops N ls).setIfInBounds i true = listedOf ops N (mark ls i) := by
  apply Array.ext
  · simp [listedOf_size]
  · intro k h1 h2
    rw [listedOf_size] at h2
    have a1 := listedOf_get (N := N) (ls := ls) h2
    have a2 := listedOf_get (N := N) (ls := mark ls i) h2
    rw [Array.getElem?_eq_getElem (by rw [listedOf_size]; exact h2)] at a1 a2
    rw [Option.some.inj a2]
    rw [Array.getElem_setIfInBounds]
    unfold mark
    by_cases hk : i = k
    · subst hk; rw [if_pos rfl, if_pos rfl]; simp [hi]
    · rw [if_neg hk, if_neg (fun e => hk e.symm)]
      exact Option.some.inj a1
    · rw [listedOf_size]; exact h2
/-- How many of the heads are not listed. -/
def leftOf (N : Nat) (ls : Nat → Bool) : Nat := ((List.range N).filter fun j => !ls j).length
theorem leftOf_zero {N : Nat} {ls : Nat → Bool} (h : leftOf N ls = 0) : ∀ j, j < N → ls j = true := by
  intro j hj
  unfold leftOf at h
  rw [List.length_eq_zero_iff, List.filter_eq_nil_iff] at h
  have := h j (List.mem_range.2 hj)
  simpa using this
theorem leftOf_mark {N i : Nat} {ls : Nat → Bool} (hi : i < N) (hl : ls i = false) : leftOf N ls = leftOf N (mark ls i) + 1 := by
  have key : ∀ (l : List Nat), l.Nodup → i ∈ l → (l.filter fun j => !ls j).length = (l.filter fun j => !mark ls i j).length + 1 := by
    intro l
    induction l with
    | nil => intro _ h; cases h
    | cons a l ih =>
      intro hn hm
      obtain ⟨h1, h2⟩ := List.nodup_cons.1 hn
      by_cases ha : a = i
      · subst ha
        have e : (l.filter fun j => !mark ls a j) = l.filter fun j => !ls j := by
          apply List.filter_congr
          intro j hj
          unfold mark; rw [if_neg (fun (e : j = a) => h1 (e ▸ hj))]
        rw [List.filter_cons, List.filter_cons, e]
        have hm2 : mark ls a a = true := by unfold mark; rw [if_pos rfl]
        rw [hl, hm2]; simp
      · have hi2 : i ∈ l := by
          rcases List.mem_cons.1 hm with h | h
          · exact absurd h.symm ha
          · exact h
        have := ih h2 hi2
        have hm2 : mark ls i a = ls a := by unfold mark; rw [if_neg ha]
        rw [List.filter_cons, List.filter_cons, hm2]
        split
        · simp only [List.length_cons, this]
        · exact this
  exact key _ List.nodup_range (List.mem_range.2 hi)
/-- What is to be shown of the row, when all the others are done. -/
structure ListGoal (P : Program) (ops : Array Oper) (Q : Exit → Act → World → Prop) (l : List Oper) (a : Act) (w : World) : Prop where
  go : wpList P ops Q l a w
/-- What one of the others has to show. -/
def OpStepH (P : Program) (ops : Array Oper) (N : Nat) (Q : Exit → Act → World → Prop) (a0 : Act) (D : List (List Nat)) (G : World → Prop) (Rl : List (Value → World → Prop)) (i : Nat) (o : Oper) : Prop :=
  ∀ (x : Nat → Value) (w : World), G w → DepsAll Rl x w (D.getD i []) → ∀ K : Act → World → Prop,
    Shut (∀ v w', Kp w w' → relAt Rl i v w' → K ((putsFrom (ops.toList.take N) 0 x a0).put o.dst v) w') →
    OpGoal P ops Q o (putsFrom (ops.toList.take N) 0 x a0) w K
theorem wp_region_tail {P : Program} {ops : Array Oper} {Q : Exit → Act → World → Prop} {id : Nat} {a0 : Act} {w : World} (N : Nat) (D : List (List Nat)) (G : World → Prop) (Rl : List (Value → World → Prop)) (hm : P.follows .mixedOrders = true) (hn : nodupB (dstsOf (ops.toList.take N)) = true) (he : edgesOk ops (fun i => D.getD i []) = true) (hl : Rl.length = N) (ht : tailB ops N D = true)
    (hw : G w.drew) (hG : ∀ w w', Kp w w' → G w → G w') (hR : StabAll Rl)
    (hS : AllSteps (OpStepH P ops N Q a0 D G Rl) 0 (ops.toList.take N))
    (hE : ∀ x w, G w → EndAll x w 0 Rl → ListGoal P ops Q (ops.toList.drop N) (putsFrom (ops.toList.take N) 0 x a0) w) :
    (Code.region id ops true).wp P Q a0 w := by
  unfold tailB at ht
  simp only [Bool.and_eq_true, decide_eq_true_eq] at ht
  obtain ⟨⟨⟨hN, hr⟩, hrow⟩, hseq⟩ := ht
  refine wp_region_any hm ?_
  have key : ∀ (m : Nat) (ls : Nat → Bool) (x : Nat → Value) (w : World), leftOf N ls = m → (∀ i j, i < N → ls i = true → j ∈ D.getD i [] → ls j = true) → G w → (∀ j, j < N → ls j = true → relAt Rl j (x j) w) →
      wpAny P .any ops Q (ops.size - N + m) (listedOf ops N ls) (putsFrom (ops.toList.take N) 0 x a0) w := by
    intro m
    induction m with
    | zero =>
      intro ls x w hlf hc hg hrel
      have hall := leftOf_zero hlf
      rw [listedOf_all (by omega) hall]
      have := wpAny_of_seq (md := .any) (P := P) (ops := ops) (Q' := Q) (ops.toList.drop N) N (Array.replicate N true ++ Array.replicate (ops.size - N) false) (putsFrom (ops.toList.take N) 0 x a0) w (fun j => by rw [List.getElem?_drop, Array.getElem?_toList]) (by rw [List.length_drop, Array.length_toList]; exact hseq) (hE x w hg (EndAll.of fun j hj => by rw [Nat.zero_add]; exact hrel j (by omega) (hall j (by omega)))).go
      rw [List.length_drop, Array.length_toList] at this
      exact this
    | succ m ih =>
      intro ls x w hlf hc hg hrel
      refine ⟨fun h0 => ?_, fun i hi => ?_⟩
      · exfalso
        have hall : ∀ j, j < N → ls j = true := by
          intro j
          induction j using Nat.strongRecOn with
          | ind j ihj =>
            intro hj
            cases hlj : ls j with
            | true => rfl
            | false =>
              exfalso
              have ho : ops[j]? = some ops[j] := Array.getElem?_eq_getElem (by omega)
              have : j ∈ Region.ready .any ops (listedOf ops N ls) := mem_ready.2 ⟨by rw [Array.getD_eq_getD_getElem?, listedOf_get (by omega), hlj]; simp, _, ho, fun e hea hb => by
                have h1 := (edges_at he ho).1 e hea hb
                rw [Array.getD_eq_getD_getElem?, listedOf_get (by omega), ihj e.on h1 (by omega)]
                simp; omega⟩
              rw [h0] at this; cases this
        have : leftOf N ls = 0 := by
          unfold leftOf
          rw [List.length_eq_zero_iff, List.filter_eq_nil_iff]
          intro j hj; simp [hall j (List.mem_range.1 hj)]
        omega
      · obtain ⟨h1, o, ho, hea⟩ := mem_ready.1 hi
        have his : i < ops.size := (Array.getElem?_eq_some_iff.1 ho).1
        have hlist : ∀ e ∈ o.after, Region.binds .any e = true → e.on < N ∧ ls e.on = true := by
          intro e he1 he2
          have h2 := hea e he1 he2
          have hlt := (edges_at he ho).1 e he1 he2
          rw [Array.getD_eq_getD_getElem?, listedOf_get (by omega)] at h2
          simpa using h2
        have hdep : ∀ j ∈ D.getD i [], ls j = true := by
          intro j hj
          obtain ⟨e, he1, he2, he3⟩ := (edges_at he ho).2 j hj
          rw [← he3]; exact (hlist e he1 he2).2
        by_cases hiN : i < N
        · have hli : ls i = false := by
            rw [Array.getD_eq_getD_getElem?, listedOf_get his] at h1
            simpa [hiN] using h1
          have ho' : (ops.toList.take N)[i]? = some o := by
            rw [List.getElem?_take, if_pos hiN, Array.getElem?_toList]; exact ho
          have hst := AllSteps.at_ hS (i := i) ho'
          rw [Nat.zero_add] at hst
          refine wpOp_step ho (fun K' hK => (hst x w hg (DepsAll.of fun j hj => ?_) K' (fun v w' hk hv => hK _ _ ?_)).go)
          · obtain ⟨e, he1, he2, he3⟩ := (edges_at he ho).2 j hj
            exact hrel j (by rw [← he3]; exact (hlist e he1 he2).1) (hdep j hj)
          · have hpa := puts_at (ops.toList.take N) 0 i x a0 v o ho' (nodup_of hn)
            rw [Nat.zero_add] at hpa
            rw [hpa, listedOf_mark hiN]
            have hlm := leftOf_mark hiN hli
            refine ih (mark ls i) (upd x i v) w' (by omega) ?_ (hG _ _ hk hg) ?_
            · intro i' j hi' h2 h3
              unfold mark at h2 ⊢
              by_cases hj : j = i
              · rw [if_pos hj]
              · rw [if_neg hj]
                by_cases hii : i' = i
                · subst hii; exact hdep j h3
                · rw [if_neg hii] at h2; exact hc i' j hi' h2 h3
            · intro j hj hm'
              by_cases hji : j = i
              · subst hji; unfold upd; rw [if_pos rfl]; exact hv
              · unfold mark at hm'; rw [if_neg hji] at hm'
                unfold upd; rw [if_neg hji]
                exact hR.at_ j _ _ _ hk (hrel j hj hm')
        · exfalso
          by_cases hi2 : i = N
          · subst hi2
            have hcl : ∀ i' j, (decide (i' = i) || (decide (i' < i) && ls i')) = true → j ∈ D.getD i' [] → (decide (j = i) || (decide (j < i) && ls j)) = true := by
              intro i' j h2 h3
              have hji : j < i' ∨ ¬ i' < ops.size := by
                by_cases hs : i' < ops.size
                · left
                  obtain ⟨e, he1, he2, he3⟩ := (edges_at he (Array.getElem?_eq_getElem hs)).2 j h3
                  have := (edges_at he (Array.getElem?_eq_getElem hs)).1 e he1 he2
                  omega
                · exact .inr hs
              rw [Bool.or_eq_true, decide_eq_true_eq, Bool.and_eq_true, decide_eq_true_eq] at h2 ⊢
              rcases h2 with rfl | ⟨h2, h4⟩
              · exact .inr ⟨by omega, hdep j h3⟩
              · exact .inr ⟨by omega, hc i' j h2 h4 h3⟩
            have hall := last_all hr hcl (by simp)
            have : leftOf i ls = 0 := by
              unfold leftOf
              rw [List.length_eq_zero_iff, List.filter_eq_nil_iff]
              intro j hj
              have hj := List.mem_range.1 hj
              have := hall j (by omega)
              have hne : j ≠ i := by omega
              simp [hne, hj] at this
              simp [this]
            omega
          · have h3 := List.all_eq_true.1 hrow i (List.mem_range.2 his)
            rw [ho] at h3
            simp only [Option.map_some, Option.getD_some, Bool.or_eq_true, decide_eq_true_eq, Array.any_eq_true', Bool.and_eq_true, beq_iff_eq] at h3
            rcases h3 with h3 | ⟨e, he1, he2, he3⟩
            · omega
            · have := (hlist e he1 he2).1; omega
  have h0 : listedOf ops N (fun _ => false) = Array.replicate ops.size false := by
    apply Array.ext
    · rw [listedOf_size]; simp
    · intro k h1 h2
      rw [listedOf_size] at h1
      have a1 := listedOf_get (N := N) (ls := fun _ => false) h1
      rw [Array.getElem?_eq_getElem (by rw [listedOf_size]; exact h1)] at a1
      rw [Option.some.inj a1]; simp
  have hlf : leftOf N (fun _ => false) = N := by
    unfold leftOf; rw [List.filter_eq_self.2 (by simp)]; simp
  have := key N (fun _ => false) (ownX (ops.toList.take N) a0) w.drew hlf (fun i j _ h => by cases h) hw (fun j _ h => by cases h)
  rw [h0, puts_own _ _ _ _ fun i o ho => by unfold ownX; rw [Nat.zero_add, ho]; rfl, show ops.size - N + N = ops.size by omega] at this
  exact this
theorem wp_region_row {P : Program} {l : List Oper} {Q : Exit → Act → World → Prop} {id : Nat} {a0 : Act} {w : World} (N : Nat) (D : List (List Nat)) (G : World → Prop) (Rl : List (Value → World → Prop)) (hm : P.follows .mixedOrders = true) (hn : nodupB (dstsOf (l.take N)) = true) (he : edgesOk l.toArray (fun i => D.getD i []) = true) (hl : Rl.length = N) (ht : tailB l.toArray N D = true)
    (hw : G w.drew) (hG : ∀ w w', Kp w w' → G w → G w') (hR : StabAll Rl)
    (hS : AllSteps (OpStepH P l.toArray N Q a0 D G Rl) 0 (l.take N))
    (hE : ∀ x w, G w → EndAll x w 0 Rl → ListGoal P l.toArray Q (l.drop N) (putsFrom (l.take N) 0 x a0) w) :
    (Code.region id l.toArray true).wp P Q a0 w := wp_region_tail N D G Rl hm hn he hl ht hw hG hR hS hE
end Go.Proofs.Ytgonekmmbeedeaa
