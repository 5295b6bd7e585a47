/-
  A region that draws its order and whose last operation waits for all the others (a store, an append, a writing call): each operation ahead of it is shown once, then the last. No condition.
-/
import Derived.Test.YtgonekmmbeedeaaRegion
namespace Go.Proofs.Ytgonekmmbeedeaa
open Go.RowKit
set_option linter.unusedVariables false

section
variable {P : Program} {ops : Array Oper} {Q : Exit → Act → World → Prop} {a0 : Act} {D : Nat → List Nat} {I : (Nat → Bool) → (Nat → Value) → World → Prop}
/-- The rule for whatever invariant. -/
theorem wpAny_inv (hn : (dstsOf ops.toList).Nodup) (he : edgesOk ops D = true)
    (hS : ∀ (i : Nat) (o : Oper) (ls : Nat → Bool) (x : Nat → Value) (w : World), ops[i]? = some o → ls i = false → (∀ j ∈ D i, ls j = true) → I ls x w → ∀ K : Act → World → Prop,
      Shut (∀ v w', I (mark ls i) (upd x i v) w' → K ((putsFrom ops.toList 0 x a0).put o.dst v) w') →
      if Region.wanted o (yielded ops (putsFrom ops.toList 0 x a0).tmps) = true then Oper.wp P o (putsFrom ops.toList 0 x a0) w K Q else K ((putsFrom ops.toList 0 x a0).put o.dst undef) w)
    (hE : ∀ ls x w, (∀ j, j < ops.size → ls j = true) → I ls x w → Q .normal (putsFrom ops.toList 0 x a0) w) :
    ∀ (fuel : Nat) (listed : Array Bool) (ls : Nat → Bool) (x : Nat → Value) (w : World), listed.size = ops.size → (∀ j, j < ops.size → listed[j]? = some (ls j)) → listed.toList.count false ≤ fuel → I ls x w →
      wpAny P .any ops Q fuel listed (putsFrom ops.toList 0 x a0) w := by
  have hnil : ∀ (listed : Array Bool) (ls : Nat → Bool), listed.size = ops.size → (∀ j, j < ops.size → listed[j]? = some (ls j)) → Region.ready .any ops listed = [] → ∀ j, j < ops.size → ls j = true := by
    intro listed ls hsz hl hr j
    induction j using Nat.strongRecOn with
    | ind j ih =>
      intro hj
      cases hlj : ls j with
      | true => rfl
      | false =>
        exfalso
        have ho : ops[j]? = some ops[j] := Array.getElem?_eq_getElem hj
        have : j ∈ Region.ready .any ops listed := mem_ready.2 ⟨by simp [Array.getD_eq_getD_getElem?, hl j hj, hlj], _, ho, fun e hea hb => by
          have h1 := (edges_at he ho).1 e hea hb
          simp [Array.getD_eq_getD_getElem?, hl e.on (by omega), ih e.on h1 (by omega)]⟩
        rw [hr] at this; cases this
  have hend : ∀ (listed : Array Bool) (ls : Nat → Bool) (x : Nat → Value) (w : World), listed.size = ops.size → (∀ j, j < ops.size → listed[j]? = some (ls j)) → I ls x w → Region.ready .any ops listed = [] → Q .normal (putsFrom ops.toList 0 x a0) w :=
    fun listed ls x w hsz hl hi h0 => hE ls x w (hnil listed ls hsz hl h0) hi
  intro fuel
  induction fuel with
  | zero =>
    intro listed ls x w hsz hl hc hi
    have h0 : Region.ready .any ops listed = [] := by
      rw [List.eq_nil_iff_forall_not_mem]
      intro j hj
      obtain ⟨h1, o, ho, _⟩ := mem_ready.1 hj
      have hjs : j < ops.size := (Array.getElem?_eq_some_iff.1 ho).1
      have h2 : false ∈ listed.toList := by
        have := hl j hjs
        rw [Array.getD_eq_getD_getElem?, this] at h1
        simp at h1
        rw [h1] at this
        rw [← Array.getElem?_toList] at this
        exact List.mem_of_getElem? this
      have := List.count_pos_iff.2 h2
      omega
    exact ⟨h0, hend listed ls x w hsz hl hi h0⟩
  | succ fuel ih =>
    intro listed ls x w hsz hl hc hI
    refine ⟨hend listed ls x w hsz hl hI, fun i hi => ?_⟩
    obtain ⟨h1, o, ho, hea⟩ := mem_ready.1 hi
    have his : i < ops.size := (Array.getElem?_eq_some_iff.1 ho).1
    have hli : ls i = false := by
      have := hl i his
      rw [Array.getD_eq_getD_getElem?, this] at h1
      simpa using h1
    refine wpOp_step ho (fun K' hK => hS i o ls x w ho hli (fun j hj => ?_) hI K' (fun v w' hT => hK _ _ ?_))
    · obtain ⟨e, he1, he2, he3⟩ := (edges_at he ho).2 j hj
      have h2 := hea e he1 he2
      have hlt := (edges_at he ho).1 e he1 he2
      rw [he3] at h2 hlt
      have hjs : j < ops.size := by omega
      rw [Array.getD_eq_getD_getElem?, hl j hjs] at h2
      simpa using h2
    · have hpa := puts_at ops.toList 0 i x a0 v o (by rw [Array.getElem?_toList]; exact ho) hn
      rw [Nat.zero_add] at hpa
      rw [hpa]
      refine ih (listed.setIfInBounds i true) (mark ls i) (upd x i v) w' (by simpa using hsz) (fun j hj => ?_) ?_ hT
      · unfold mark
        by_cases hji : j = i
        · subst hji; rw [if_pos rfl, Array.getElem?_setIfInBounds_self_of_lt (by omega)]
        · rw [if_neg hji, Array.getElem?_setIfInBounds_ne (by omega)]; exact hl j hj
      · have hil : i < listed.toList.length := by simp; omega
        have hgi : listed.toList[i] = false := by
          have := hl i his
          rw [hli, ← Array.getElem?_toList, List.getElem?_eq_getElem hil] at this
          exact Option.some.inj this
        have h3 : false ∈ listed.toList := by rw [← hgi]; exact List.getElem_mem hil
        have h4 := List.count_pos_iff.2 h3
        rw [Array.toList_setIfInBounds, List.count_set hil]
        rw [hgi, if_pos (by rfl), if_neg (by decide)]; omega
theorem wp_region_inv (a0 : Act) (D : Nat → List Nat) (I : (Nat → Bool) → (Nat → Value) → World → Prop) {id : Nat} {w : World} (hm : P.follows .mixedOrders = true) (hn : (dstsOf ops.toList).Nodup) (he : edgesOk ops D = true)
    (h0 : I (fun _ => false) (ownX ops.toList a0) w.drew)
    (hS : ∀ (i : Nat) (o : Oper) (ls : Nat → Bool) (x : Nat → Value) (w : World), ops[i]? = some o → ls i = false → (∀ j ∈ D i, ls j = true) → I ls x w → ∀ K : Act → World → Prop,
      Shut (∀ v w', I (mark ls i) (upd x i v) w' → K ((putsFrom ops.toList 0 x a0).put o.dst v) w') →
      if Region.wanted o (yielded ops (putsFrom ops.toList 0 x a0).tmps) = true then Oper.wp P o (putsFrom ops.toList 0 x a0) w K Q else K ((putsFrom ops.toList 0 x a0).put o.dst undef) w)
    (hE : ∀ ls x w, (∀ j, j < ops.size → ls j = true) → I ls x w → Q .normal (putsFrom ops.toList 0 x a0) w) :
    (Code.region id ops true).wp P Q a0 w := by
  refine wp_region_any hm ?_
  have := wpAny_inv hn he hS hE ops.size (Array.replicate ops.size false) (fun _ => false) (ownX ops.toList a0) w.drew (by simp) (fun j hj => by simp [hj]) (by simp) h0
  rw [puts_own _ _ _ _ fun i o ho => by unfold ownX; rw [Nat.zero_add, ho]; rfl] at this
  exact this
end
/-- Each operation but the last is waited for by a later one. -/
def lastB (N : Nat) (D : List (List Nat)) : Bool := (List.range N).all fun k => (List.range (N + 1)).any fun j => decide (k < j) && (D.getD j []).contains k
theorem last_all {N : Nat} {D : List (List Nat)} (h : lastB N D = true) {ls : Nat → Bool} (hc : ∀ i j, ls i = true → j ∈ D.getD i [] → ls j = true) (hl : ls N = true) : ∀ k, k ≤ N → ls k = true := by
  have key : ∀ m k, N - k ≤ m → k ≤ N → ls k = true := by
    intro m
    induction m with
    | zero =>
      intro k h1 h2
      have e : k = N := by omega
      rw [e]; exact hl
    | succ m ih =>
      intro k h1 h2
      rcases Nat.lt_or_ge k N with hk | hk
      · unfold lastB at h
        have h3 := List.all_eq_true.1 h k (List.mem_range.2 hk)
        obtain ⟨j, hj, h4⟩ := List.any_eq_true.1 h3
        rw [Bool.and_eq_true, decide_eq_true_eq, List.contains_iff_mem] at h4
        have hj' := List.mem_range.1 hj
        exact hc j k (ih j (by omega) (by omega)) h4.2
      · have e : k = N := by omega
        rw [e]; exact hl
  exact fun k hk => key (N - k) k (Nat.le_refl _) hk
/-- What the last operation has to show: behind it the region is done. -/
def OpLast (P : Program) (ops : Array Oper) (Q : Exit → Act → World → Prop) (a0 : Act) (G : World → Prop) (Rl : List (Value → World → Prop)) (i : Nat) (o : Oper) : Prop :=
  ∀ (x : Nat → Value) (w : World), G w → EndAll x w 0 Rl → ∀ K : Act → World → Prop,
    Shut (∀ v w', EndGoal Q ((putsFrom ops.toList 0 x a0).put o.dst v) w' → K ((putsFrom ops.toList 0 x a0).put o.dst v) w') →
    OpGoal P ops Q o (putsFrom ops.toList 0 x a0) w K
/-- THE RULE. -/
theorem wp_region_last {P : Program} {ops : Array Oper} {Q : Exit → Act → World → Prop} {id : Nat} {a0 : Act} {w : World} (N : Nat) (D : List (List Nat)) (G : World → Prop) (Rl : List (Value → World → Prop)) (hm : P.follows .mixedOrders = true) (hn : nodupB (dstsOf ops.toList) = true) (he : edgesOk ops (fun i => D.getD i []) = true) (hl : Rl.length = N) (hN : ops.size = N + 1) (hr : lastB N D = true)
    (hw : G w.drew) (hG : ∀ w w', Kp w w' → G w → G w') (hR : StabAll Rl)
    (hS : AllSteps (OpStepK P ops Q a0 D G Rl) 0 (ops.toList.take N))
    (hE : AllSteps (OpLast P ops Q a0 G Rl) N (ops.toList.drop N)) :
    (Code.region id ops true).wp P Q a0 w := by
  refine wp_region_inv a0 (fun i => D.getD i []) (fun ls x w => (∀ i j, ls i = true → j ∈ D.getD i [] → ls j = true) ∧ (ls N = true → Q .normal (putsFrom ops.toList 0 x a0) w) ∧ (ls N = false → G w ∧ ∀ j, j < N → ls j = true → relAt Rl j (x j) w)) hm (nodup_of hn) he ⟨fun i j h => by (cases h), fun h => by (cases h), fun _ => ⟨hw, fun j _ h => by (cases h)⟩⟩ ?_ (fun ls x w hall hI => hI.2.1 (hall N (by omega)))
  intro i o ls x w ho hli hd hI K hK
  have his : i < ops.size := (Array.getElem?_eq_some_iff.1 ho).1
  have hcl : ∀ i' j, mark ls i i' = true → j ∈ D.getD i' [] → mark ls i j = true := by
    intro i' j h1 h2
    unfold mark at h1 ⊢
    by_cases hj : j = i
    · rw [if_pos hj]
    · rw [if_neg hj]
      by_cases hi : i' = i
      · subst hi; exact hd j h2
      · rw [if_neg hi] at h1; exact hI.1 i' j h1 h2
  cases hlN : ls N with
  | true => exact absurd (last_all hr hI.1 hlN i (by omega)) (by rw [hli]; decide)
  | false =>
    obtain ⟨hg, hrel⟩ := hI.2.2 hlN
    by_cases hiN : i = N
    · subst hiN
      have hall : ∀ k, k < i → ls k = true := fun k hk => by
        have := last_all hr hcl (by unfold mark; rw [if_pos rfl]) k (by omega)
        unfold mark at this; rwa [if_neg (by omega)] at this
      have hst := AllSteps.at_ hE (i := 0) (o := o) (by rw [List.getElem?_drop, Nat.add_zero, Array.getElem?_toList]; exact ho)
      refine (hst x w hg (EndAll.of fun j hj => ?_) K (fun v w' hq => hK v w' ⟨hcl, fun _ => ?_, fun h => ?_⟩)).go
      · rw [Nat.zero_add]; exact hrel j (by omega) (hall j (by omega))
      · have hpa := puts_at ops.toList 0 i x a0 v o (by rw [Array.getElem?_toList]; exact ho) (nodup_of hn)
        rw [Nat.zero_add] at hpa
        rw [← hpa]; exact hq.go
      · unfold mark at h; rw [if_pos rfl] at h; cases h
    · have ho' : (ops.toList.take N)[i]? = some o := by
        rw [List.getElem?_take, if_pos (by omega), Array.getElem?_toList]; exact ho
      have hst := AllSteps.at_ hS (i := i) ho'
      rw [Nat.zero_add] at hst
      refine (hst x w hg (DepsAll.of fun j hj => ?_) K (fun v w' hk hv => hK v w' ⟨hcl, fun h => ?_, fun _ => ⟨hG _ _ hk hg, fun j hj hm' => ?_⟩⟩)).go
      · have hj2 := (edges_at he ho).2 j hj
        obtain ⟨e, he1, he2, he3⟩ := hj2
        have := (edges_at he ho).1 e he1 he2
        exact hrel j (by omega) (hd j hj)
      · unfold mark at h; rw [if_neg (by omega), hlN] at h; cases h
      · by_cases hji : j = i
        · subst hji; unfold upd; rw [if_pos rfl]; exact hv
        · unfold mark at hm'; rw [if_neg hji] at hm'
          unfold upd; rw [if_neg hji]
          exact hR.at_ j _ _ _ hk (hrel j hj hm')
end Go.Proofs.Ytgonekmmbeedeaa
