/-
  A region that draws its order, operation by operation: what each one leaves is said once (R), and the others keep it. No condition.
-/
import Derived.Test.YtgonekmmbeedeaaBase
import Derived.Deep.RegionHeld3
namespace Go.Proofs.Ytgonekmmbeedeaa
open Go.RowKit
set_option linter.unusedVariables false

def upd (x : Nat → Value) (i : Nat) (v : Value) : Nat → Value := fun j => if j = i then v else x j
def mark (ls : Nat → Bool) (i : Nat) : Nat → Bool := fun j => if j = i then true else ls j
/-- The act a, each operation's temporary holding what x says. -/
def putsFrom : List Oper → Nat → (Nat → Value) → Act → Act
  | [], _, _, a => a
  | o :: r, k, x, a => putsFrom r (k + 1) x (a.put o.dst (x k))
def dstsOf (l : List Oper) : List Tmp := l.filterMap (·.dst)
theorem put_same (a : Act) (d : Option Tmp) (u v : Value) : (a.put d u).put d v = a.put d v := by
  cases d with
  | none => rfl
  | some d => simp [Act.put]
theorem puts_put : ∀ (l : List Oper) (k : Nat) (x : Nat → Value) (a : Act) (d : Option Tmp) (v : Value), (∀ t, d = some t → t ∉ dstsOf l) → (putsFrom l k x a).put d v = putsFrom l k x (a.put d v)
  | [], _, _, _, _, _, _ => rfl
  | o :: r, k, x, a, d, v, h => by
    have h1 : ∀ t, d = some t → t ∉ dstsOf r := fun t e hm => h t e (by unfold dstsOf at *; cases ho : o.dst <;> simp_all)
    have h2 : ∀ t, o.dst = some t → d ≠ some t := fun t e hd => h t hd (by unfold dstsOf; simp [e])
    show (putsFrom r (k + 1) x (a.put o.dst (x k))).put d v = putsFrom r (k + 1) x ((a.put d v).put o.dst (x k))
    rw [puts_put r _ _ _ _ _ h1, Act.put_comm a (x k) v h2]
theorem puts_lt : ∀ (l : List Oper) (k i : Nat) (x : Nat → Value) (a : Act) (v : Value), i < k → putsFrom l k (upd x i v) a = putsFrom l k x a
  | [], _, _, _, _, _, _ => rfl
  | o :: r, k, i, x, a, v, h => by
    have e : upd x i v k = x k := by unfold upd; rw [if_neg (by omega)]
    show putsFrom r (k + 1) (upd x i v) (a.put o.dst (upd x i v k)) = putsFrom r (k + 1) x (a.put o.dst (x k))
    rw [e]; exact puts_lt r _ _ _ _ _ (by omega)
theorem puts_at : ∀ (l : List Oper) (k i : Nat) (x : Nat → Value) (a : Act) (v : Value) (o : Oper), l[i]? = some o → (dstsOf l).Nodup → (putsFrom l k x a).put o.dst v = putsFrom l k (upd x (k + i) v) a
  | [], _, _, _, _, _, _, h, _ => by simp at h
  | o' :: r, k, 0, x, a, v, o, h, hn => by
    simp only [List.getElem?_cons_zero, Option.some.injEq] at h
    subst h
    have h1 : ∀ t, o'.dst = some t → t ∉ dstsOf r := fun t e hm => by unfold dstsOf at *; simp [e] at hn; simp at hm; obtain ⟨y, hy⟩ := hm; exact hn.1 y hy.1 hy.2
    show (putsFrom r (k + 1) x (a.put o'.dst (x k))).put o'.dst v = putsFrom r (k + 1) (upd x k v) (a.put o'.dst (upd x k v k))
    have e : upd x k v k = v := by unfold upd; rw [if_pos rfl]
    rw [puts_put r _ _ _ _ _ h1, put_same, puts_lt r _ _ _ _ _ (by omega), e]
  | o' :: r, k, i + 1, x, a, v, o, h, hn => by
    have hn' : (dstsOf r).Nodup := by unfold dstsOf at *; cases ho : o'.dst <;> simp_all
    have e : upd x (k + (i + 1)) v k = x k := by unfold upd; rw [if_neg (by omega)]
    show (putsFrom r (k + 1) x (a.put o'.dst (x k))).put o.dst v = putsFrom r (k + 1) (upd x (k + (i + 1)) v) (a.put o'.dst (upd x (k + (i + 1)) v k))
    rw [e, puts_at r (k + 1) i x _ v o (by simpa using h) hn', show k + 1 + i = k + (i + 1) by omega]

theorem put_own (a : Act) (d : Option Tmp) : a.put d (d.elim undef fun d => a.tmps.getD d undef) = a := by
  cases d with
  | none => rfl
  | some d =>
    obtain ⟨t, df⟩ := a
    simp only [Act.put, Option.elim, Act.mk.injEq, and_true]
    apply Array.ext
    · simp
    · intro i h1 h2
      rw [Array.getElem_setIfInBounds]
      split
      · rename_i h; subst h; simp [Array.getD, h2]
      · rfl
/-- What the slots hold ahead of the region. -/
def ownX (ops : List Oper) (a : Act) (i : Nat) : Value := ((ops[i]?).bind (·.dst)).elim undef fun d => a.tmps.getD d undef
theorem puts_own : ∀ (l : List Oper) (k : Nat) (x : Nat → Value) (a : Act), (∀ i o, l[i]? = some o → x (k + i) = o.dst.elim undef fun d => a.tmps.getD d undef) → putsFrom l k x a = a
  | [], _, _, _, _ => rfl
  | o :: r, k, x, a, h => by
    show putsFrom r (k + 1) x (a.put o.dst (x k)) = a
    have h0 := h 0 o rfl
    rw [Nat.add_zero] at h0
    rw [h0, put_own]
    exact puts_own r (k + 1) x a (fun i o' ho => by rw [show k + 1 + i = k + (i + 1) by omega]; exact h (i + 1) o' (by simpa using ho))
/-- What one operation has to show. -/
def OpStep (P : Program) (ops : Array Oper) (Q : Exit → Act → World → Prop) (a0 : Act) (D : Nat → List Nat) (G : World → Prop) (R : (Nat → Bool) → Nat → Value → World → Prop) (T : Nat → World → World → Prop) (i : Nat) (o : Oper) : Prop :=
  ∀ (ls : Nat → Bool) (x : Nat → Value) (w : World), ls i = false → G w → (∀ j ∈ D i, R ls j (x j) w) → ∀ K : Act → World → Prop,
    Shut (∀ v w', T i w w' → R (mark ls i) i v w' → K ((putsFrom ops.toList 0 x a0).put o.dst v) w') →
    if Region.wanted o (yielded ops (putsFrom ops.toList 0 x a0).tmps) = true then Oper.wp P o (putsFrom ops.toList 0 x a0) w K Q else K ((putsFrom ops.toList 0 x a0).put o.dst undef) w
def AllSteps (S : Nat → Oper → Prop) : Nat → List Oper → Prop
  | _, [] => True
  | k, o :: r => S k o ∧ AllSteps S (k + 1) r
theorem AllSteps.at_ {S : Nat → Oper → Prop} : ∀ {l : List Oper} {k i : Nat} {o : Oper}, AllSteps S k l → l[i]? = some o → S (k + i) o
  | [], _, _, _, _, h => by simp at h
  | o' :: r, k, 0, o, hs, h => by simp at h; subst h; exact hs.1
  | o' :: r, k, i + 1, o, hs, h => by
    have := AllSteps.at_ hs.2 (i := i) (by simpa using h)
    rwa [show k + 1 + i = k + (i + 1) by omega] at this
/-- The edges of a region go backward, and those of D are among them. -/
def edgesOk (ops : Array Oper) (D : Nat → List Nat) : Bool :=
  (List.range ops.size).all fun i => ((ops[i]?).map fun o => (o.after.all fun e => !Region.binds .any e || decide (e.on < i)) && ((D i).all fun j => o.after.any fun e => Region.binds .any e && e.on == j)).getD false
theorem edges_at {ops : Array Oper} {D : Nat → List Nat} (h : edgesOk ops D = true) {i : Nat} {o : Oper} (ho : ops[i]? = some o) :
    (∀ e ∈ o.after, Region.binds .any e = true → e.on < i) ∧ ∀ j ∈ D i, ∃ e ∈ o.after, Region.binds .any e = true ∧ e.on = j := by
  have hi : i < ops.size := (Array.getElem?_eq_some_iff.1 ho).1
  unfold edgesOk at h
  rw [List.all_eq_true] at h
  have := h i (List.mem_range.2 hi)
  rw [ho] at this
  simp only [Option.map_some, Option.getD_some, Bool.and_eq_true, Array.all_eq_true', Array.any_eq_true', List.all_eq_true, Bool.or_eq_true, Bool.not_eq_true', decide_eq_true_eq, beq_iff_eq] at this
  refine ⟨fun e he hb => ?_, fun j hj => ?_⟩
  · rcases this.1 e he with h | h
    · rw [hb] at h; cases h
    · exact h
  · obtain ⟨e, he, h1, h2⟩ := this.2 j hj
    exact ⟨e, he, h1, h2⟩

section
variable {P : Program} {ops : Array Oper} {Q : Exit → Act → World → Prop} {a0 : Act} {D : Nat → List Nat} {G : World → Prop} {R : (Nat → Bool) → Nat → Value → World → Prop} {T : Nat → World → World → Prop}
theorem wpAny_each (hn : (dstsOf ops.toList).Nodup) (he : edgesOk ops D = true) (hG : ∀ i w w', T i w w' → G w → G w')
    (hR : ∀ ls i j v w w', ls i = false → ls j = true → T i w w' → R ls j v w → R (mark ls i) j v w')
    (hS : AllSteps (OpStep P ops Q a0 D G R T) 0 ops.toList)
    (hE : ∀ x w, G w → (∀ ls, (∀ j, j < ops.size → ls j = true) → (∀ j, j < ops.size → R ls j (x j) w) → Q .normal (putsFrom ops.toList 0 x a0) w)) :
    ∀ (fuel : Nat) (listed : Array Bool) (ls : Nat → Bool) (x : Nat → Value) (w : World), listed.size = ops.size → (∀ j, j < ops.size → listed[j]? = some (ls j)) → listed.toList.count false ≤ fuel → G w → (∀ j, j < ops.size → ls j = true → R ls j (x j) w) →
      wpAny P .any ops Q fuel listed (putsFrom ops.toList 0 x a0) w := by
  have hnil : ∀ (listed : Array Bool) (ls : Nat → Bool), listed.size = ops.size → (∀ j, j < ops.size → listed[j]? = some (ls j)) → Region.ready .any ops listed = [] → ∀ j, j < ops.size → ls j = true := by
    intro listed ls hsz hl hr j
    induction j using Nat.strongRecOn with
    | ind j ih =>
      intro hj
      cases hlj : ls j with
      | true => rfl
      | false =>
        exfalso
        have ho : ops[j]? = some ops[j] := Array.getElem?_eq_getElem hj
        have : j ∈ Region.ready .any ops listed := mem_ready.2 ⟨by simp [Array.getD_eq_getD_getElem?, hl j hj, hlj], _, ho, fun e hea hb => by
          have h1 := (edges_at he ho).1 e hea hb
          simp [Array.getD_eq_getD_getElem?, hl e.on (by omega), ih e.on h1 (by omega)]⟩
        rw [hr] at this; cases this
  have hend : ∀ (listed : Array Bool) (ls : Nat → Bool) (x : Nat → Value) (w : World), listed.size = ops.size → (∀ j, j < ops.size → listed[j]? = some (ls j)) → G w → (∀ j, j < ops.size → ls j = true → R ls j (x j) w) → Region.ready .any ops listed = [] → Q .normal (putsFrom ops.toList 0 x a0) w := by
    intro listed ls x w hsz hl hg hr h0
    have hall := hnil listed ls hsz hl h0
    exact hE x w hg ls hall (fun j hj => hr j hj (hall j hj))
  intro fuel
  induction fuel with
  | zero =>
    intro listed ls x w hsz hl hc hg hr
    have h0 : Region.ready .any ops listed = [] := by
      rw [List.eq_nil_iff_forall_not_mem]
      intro j hj
      obtain ⟨h1, o, ho, _⟩ := mem_ready.1 hj
      have hjs : j < ops.size := (Array.getElem?_eq_some_iff.1 ho).1
      have h2 : false ∈ listed.toList := by
        have := hl j hjs
        rw [Array.getD_eq_getD_getElem?, this] at h1
        simp at h1
        rw [h1] at this
        rw [← Array.getElem?_toList] at this
        exact List.mem_of_getElem? this
      have := List.count_pos_iff.2 h2
      omega
    exact ⟨h0, hend listed ls x w hsz hl hg hr h0⟩
  | succ fuel ih =>
    intro listed ls x w hsz hl hc hg hr
    refine ⟨hend listed ls x w hsz hl hg hr, fun i hi => ?_⟩
    obtain ⟨h1, o, ho, hea⟩ := mem_ready.1 hi
    have his : i < ops.size := (Array.getElem?_eq_some_iff.1 ho).1
    have hli : ls i = false := by
      have := hl i his
      rw [Array.getD_eq_getD_getElem?, this] at h1
      simpa using h1
    have hst := AllSteps.at_ hS (i := i) (by rw [Array.getElem?_toList]; exact ho)
    rw [Nat.zero_add] at hst
    refine wpOp_step ho (fun K' hK => hst ls x w hli hg (fun j hj => ?_) K' (fun v w' hT hRv => hK _ _ ?_))
    · obtain ⟨e, he1, he2, he3⟩ := (edges_at he ho).2 j hj
      have h2 := hea e he1 he2
      have hlt := (edges_at he ho).1 e he1 he2
      rw [he3] at h2 hlt
      have hjs : j < ops.size := by omega
      rw [Array.getD_eq_getD_getElem?, hl j hjs] at h2
      exact hr j hjs (by simpa using h2)
    · have hpa := puts_at ops.toList 0 i x a0 v o (by rw [Array.getElem?_toList]; exact ho) hn
      rw [Nat.zero_add] at hpa
      rw [hpa]
      refine ih (listed.setIfInBounds i true) (mark ls i) (upd x i v) w' (by simpa using hsz) (fun j hj => ?_) ?_ (hG i w w' hT hg) (fun j hj hm => ?_)
      · unfold mark
        by_cases hji : j = i
        · subst hji; rw [if_pos rfl, Array.getElem?_setIfInBounds_self_of_lt (by omega)]
        · rw [if_neg hji, Array.getElem?_setIfInBounds_ne (by omega)]; exact hl j hj
      · have hil : i < listed.toList.length := by simp; omega
        have hgi : listed.toList[i] = false := by
          have := hl i his
          rw [hli, ← Array.getElem?_toList, List.getElem?_eq_getElem hil] at this
          exact Option.some.inj this
        have h3 : false ∈ listed.toList := by rw [← hgi]; exact List.getElem_mem hil
        have h4 := List.count_pos_iff.2 h3
        rw [Array.toList_setIfInBounds, List.count_set hil]
        rw [hgi, if_pos (by rfl), if_neg (by decide)]; omega
      · by_cases hji : j = i
        · subst hji; unfold upd; rw [if_pos rfl]; exact hRv
        · have hlj : ls j = true := by unfold mark at hm; rwa [if_neg hji] at hm
          unfold upd; rw [if_neg hji]
          exact hR ls i j (x j) w w' hli hlj hT (hr j hj hlj)
/-- THE RULE. -/
theorem wp_region_each (a0 : Act) (D : Nat → List Nat) (G : World → Prop) (R : (Nat → Bool) → Nat → Value → World → Prop) (T : Nat → World → World → Prop) {id : Nat} {w : World} (hm : P.follows .mixedOrders = true) (hn : (dstsOf ops.toList).Nodup) (he : edgesOk ops D = true) (x0 : Nat → Value) (h0 : putsFrom ops.toList 0 x0 a0 = a0)
    (hw : G w.drew) (hG : ∀ i w w', T i w w' → G w → G w') (hR : ∀ ls i j v w w', ls i = false → ls j = true → T i w w' → R ls j v w → R (mark ls i) j v w')
    (hS : AllSteps (OpStep P ops Q a0 D G R T) 0 ops.toList)
    (hE : ∀ x w, G w → (∀ ls, (∀ j, j < ops.size → ls j = true) → (∀ j, j < ops.size → R ls j (x j) w) → Q .normal (putsFrom ops.toList 0 x a0) w)) :
    (Code.region id ops true).wp P Q a0 w := by
  refine wp_region_any hm ?_
  have := wpAny_each hn he hG hR hS hE ops.size (Array.replicate ops.size false) (fun _ => false) x0 w.drew (by simp) (fun j hj => by simp [hj]) (by simp) hw (fun j _ h => by cases h)
  rw [h0] at this
  exact this
end

def nodupB : List Tmp → Bool
  | [] => true
  | t :: l => !l.contains t && nodupB l
theorem nodup_of : ∀ {l : List Tmp}, nodupB l = true → l.Nodup
  | [], _ => List.nodup_nil
  | t :: l, h => by
    unfold nodupB at h
    simp only [Bool.and_eq_true, Bool.not_eq_true', List.contains_eq_mem, decide_eq_false_iff_not] at h
    exact List.nodup_cons.2 ⟨h.1, nodup_of h.2⟩
/-! ### the same where every operation only adds memory (Kp), and what is left is a list of relations -/
def StabAll : List (Value → World → Prop) → Prop
  | [] => True
  | r :: l => (∀ v w w', Kp w w' → r v w → r v w') ∧ StabAll l
def relAt (l : List (Value → World → Prop)) (j : Nat) : Value → World → Prop := l.getD j (fun _ _ => True)
theorem StabAll.at_ : ∀ {l : List (Value → World → Prop)} (j : Nat), StabAll l → ∀ v w w', Kp w w' → relAt l j v w → relAt l j v w'
  | [], _, _, _, _, _, _, _ => trivial
  | r :: l, 0, h, v, w, w', hk, hr => h.1 v w w' hk hr
  | r :: l, j + 1, h, v, w, w', hk, hr => StabAll.at_ j h.2 v w w' hk hr
def DepsAll (l : List (Value → World → Prop)) (x : Nat → Value) (w : World) : List Nat → Prop
  | [] => True
  | j :: r => relAt l j (x j) w ∧ DepsAll l x w r
theorem DepsAll.of {l : List (Value → World → Prop)} {x : Nat → Value} {w : World} : ∀ {d : List Nat}, (∀ j ∈ d, relAt l j (x j) w) → DepsAll l x w d
  | [], _ => trivial
  | j :: r, h => ⟨h j (List.mem_cons_self ..), DepsAll.of fun k hk => h k (List.mem_cons_of_mem _ hk)⟩
def EndAll (x : Nat → Value) (w : World) : Nat → List (Value → World → Prop) → Prop
  | _, [] => True
  | k, r :: l => r (x k) w ∧ EndAll x w (k + 1) l
theorem EndAll.of {x : Nat → Value} {w : World} : ∀ {l : List (Value → World → Prop)} {k : Nat}, (∀ j, j < l.length → relAt l j (x (k + j)) w) → EndAll x w k l
  | [], _, _ => trivial
  | r :: l, k, h => ⟨h 0 (by simp), EndAll.of fun j hj => by have := h (j + 1) (by simpa using hj); rwa [show k + (j + 1) = k + 1 + j by omega] at this⟩
structure EndGoal (Q : Exit → Act → World → Prop) (a : Act) (w : World) : Prop where
  go : Q .normal a w
/-- The goal of one operation, behind a door that no tactic opens by itself. -/
structure OpGoal (P : Program) (ops : Array Oper) (Q : Exit → Act → World → Prop) (o : Oper) (a : Act) (w : World) (K : Act → World → Prop) : Prop where
  go : if Region.wanted o (yielded ops a.tmps) = true then Oper.wp P o a w K Q else K (a.put o.dst undef) w
/-- What one operation has to show. -/
def OpStepK (P : Program) (ops : Array Oper) (Q : Exit → Act → World → Prop) (a0 : Act) (D : List (List Nat)) (G : World → Prop) (Rl : List (Value → World → Prop)) (i : Nat) (o : Oper) : Prop :=
  ∀ (x : Nat → Value) (w : World), G w → DepsAll Rl x w (D.getD i []) → ∀ K : Act → World → Prop,
    Shut (∀ v w', Kp w w' → relAt Rl i v w' → K ((putsFrom ops.toList 0 x a0).put o.dst v) w') →
    OpGoal P ops Q o (putsFrom ops.toList 0 x a0) w K
theorem AllSteps.mono {S S' : Nat → Oper → Prop} (h : ∀ i o, S i o → S' i o) : ∀ {l : List Oper} {k : Nat}, AllSteps S k l → AllSteps S' k l
  | [], _, _ => trivial
  | o :: r, k, hs => ⟨h _ _ hs.1, AllSteps.mono h hs.2⟩
theorem wp_region_kp {P : Program} {ops : Array Oper} {Q : Exit → Act → World → Prop} {id : Nat} {a0 : Act} {w : World} (D : List (List Nat)) (G : World → Prop) (Rl : List (Value → World → Prop)) (hm : P.follows .mixedOrders = true) (hn : nodupB (dstsOf ops.toList) = true) (he : edgesOk ops (fun i => D.getD i []) = true) (hl : Rl.length = ops.size)
    (hw : G w.drew) (hG : ∀ w w', Kp w w' → G w → G w') (hR : StabAll Rl)
    (hS : AllSteps (OpStepK P ops Q a0 D G Rl) 0 ops.toList)
    (hE : ∀ x w, G w → EndAll x w 0 Rl → EndGoal Q (putsFrom ops.toList 0 x a0) w) :
    (Code.region id ops true).wp P Q a0 w := by
  refine wp_region_each a0 (fun i => D.getD i []) G (fun _ j v w => relAt Rl j v w) (fun _ w w' => Kp w w') hm (nodup_of hn) he (ownX ops.toList a0) (puts_own _ _ _ _ fun i o ho => by unfold ownX; rw [Nat.zero_add, ho]; rfl) hw (fun _ w w' => hG w w') (fun _ _ j v w w' _ _ hk hr => hR.at_ j v w w' hk hr) (hS.mono fun i o h => ?_) (fun x w hg ls hall hr => (hE x w hg (EndAll.of fun j hj => ?_)).go)
  · intro ls x w _ hg hd K hK
    exact (h x w hg (DepsAll.of hd) K hK).go
  · rw [Nat.zero_add]; exact hr j (by omega)
end Go.Proofs.Ytgonekmmbeedeaa
