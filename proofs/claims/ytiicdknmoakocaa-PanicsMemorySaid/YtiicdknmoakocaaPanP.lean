/-
  The player of package panics in memory: activations, panics and what was told, each a row of the call's own. No condition.
-/
import Derived.Test.YtiicdknmoakocaaPanM
import Derived.Test.YtiicdknmoakocaaRow
namespace Go.Proofs.Ytiicdknmoakocaa
open Go.RowKit
set_option linter.unusedVariables false

theorem rowN {w : World} {base size n c m : Nat} {A : Option Addr} {e : TypeId} {xs : List Value} (h : w.ownsRow base e size (.slice A n c) m xs) : n = m := by
  rcases h.2 with ⟨e, e2⟩ | ⟨_, _, _, e, _⟩
  · injection e with _ e3 _; omega
  · injection e
/-! ### activations -/
def frCells (f : FrameM) (d : Value) : List Value := [.int .i64 f.id, .int .i64 f.mark, .int .i64 f.panic, .int .i64 f.phase, d]
def flatF : List (FrameM × Value) → List Value
  | [] => []
  | x :: r => frCells x.1 x.2 ++ flatF r
theorem flatF_append : ∀ (a b : List (FrameM × Value)), flatF (a ++ b) = flatF a ++ flatF b
  | [], b => rfl
  | x :: a, b => by show frCells _ _ ++ flatF (a ++ b) = _; rw [flatF_append a b]; simp [flatF]
theorem flatF_len : ∀ (a : List (FrameM × Value)), (flatF a).length = a.length * 5
  | [] => rfl
  | x :: a => by show (frCells _ _ ++ flatF a).length = _; rw [List.length_append, flatF_len a]; simp [frCells]; omega
theorem flatF_at (a b : List (FrameM × Value)) (x : FrameM × Value) (j : Nat) (hj : j < 5) : (flatF (a ++ x :: b))[a.length * 5 + j]? = (frCells x.1 x.2)[j]? := by
  rw [flatF_append, List.getElem?_append_right (by rw [flatF_len]; omega), flatF_len]
  show (frCells x.1 x.2 ++ flatF b)[_]? = _
  rw [List.getElem?_append_left (by simp [frCells]; omega)]
  congr 1; omega
theorem flatF_set (a b : List (FrameM × Value)) (x y : FrameM × Value) (j : Nat) (hj : j < 5) (u : Value) (h : (frCells x.1 x.2).set j u = frCells y.1 y.2) : (flatF (a ++ x :: b)).set (a.length * 5 + j) u = flatF (a ++ y :: b) := by
  rw [flatF_append, flatF_append, List.set_append_right _ _ (by rw [flatF_len]; omega), flatF_len]
  show flatF a ++ (frCells x.1 x.2 ++ flatF b).set _ u = flatF a ++ (frCells y.1 y.2 ++ flatF b)
  rw [show a.length * 5 + j - a.length * 5 = j by omega, List.set_append_left _ _ (by simp [frCells]; omega), h]
def okF (f : FrameM) : Prop := okI f.id ∧ okI f.mark ∧ okI f.panic ∧ okI f.phase ∧ (∀ d ∈ f.defers, okI d) ∧ f.defers.length ≤ 1000000
def Ap (a b : FrameM × Value) : Prop := ∀ g, a.2.ownBlock = some g → b.2.ownBlock ≠ some g
/-- A row of activations: the list has the last one first, the row has it last. -/
abbrev FrX (w : World) (base : Nat) (v : Value) (L : List (FrameM × Value)) (F : List FrameM) : Prop := w.ownsRow base 44 5 v L.length (flatF L) ∧ L.map Prod.fst = F.reverse ∧ (∀ x ∈ L, OwnI w base x.2 x.1.defers) ∧ (∀ f ∈ F, okF f) ∧ L.Pairwise Ap
def FrRow (w : World) (base : Nat) (v : Value) (F : List FrameM) : Prop := ∃ L : List (FrameM × Value), FrX w base v L F
theorem FrX.kp {w w' : World} {base : Nat} {v : Value} {L : List (FrameM × Value)} {F : List FrameM} (h : FrX w base v L F) (hk : Kp w w') : FrX w' base v L F := ⟨ownsRow_keep h.1 hk, h.2.1, fun x hx => ownsRow_keep (h.2.2.1 x hx) hk, h.2.2.2⟩
theorem FrX.touch {w w' : World} {base : Nat} {v : Value} {L : List (FrameM × Value)} {F : List FrameM} {T : TypeId} (h : FrX w base v L F) (ht : Touch T w w') (n1 : 44 ≠ T) (n2 : 3 ≠ T) : FrX w' base v L F := ⟨ownsRow_touch n1 h.1 ht, h.2.1, fun x hx => ownsRow_touch n2 (h.2.2.1 x hx) ht, h.2.2.2⟩
theorem FrRow.len {w : World} {base : Nat} {v : Value} {F : List FrameM} (h : FrRow w base v F) : ∃ A c, v = .slice A F.length c ∧ F.length ≤ c := by
  obtain ⟨L, h1, h2, _⟩ := h
  have e : L.length = F.length := by have := congrArg List.length h2; simpa using this
  rcases h1.2 with ⟨rfl, h0⟩ | ⟨g, cap, cur, rfl, _, _, hnc, _⟩
  · exact ⟨none, 0, by rw [← e, h0], by omega⟩
  · exact ⟨_, cap, by rw [e], by omega⟩
theorem FrRow.nil_ (w : World) (base : Nat) : FrRow w base (.slice none 0 0) [] := ⟨[], World.ownsRow_nil _ _ _ _, rfl, fun x hx => (by cases hx), fun x hx => (by cases hx), List.Pairwise.nil⟩
theorem FrRow.kp {w w' : World} {base : Nat} {v : Value} {F : List FrameM} (h : FrRow w base v F) (hk : Kp w w') : FrRow w' base v F := by
  obtain ⟨L, h1, h2, h3, h4⟩ := h
  exact ⟨L, ownsRow_keep h1 hk, h2, fun x hx => ownsRow_keep (h3 x hx) hk, h4⟩
theorem FrRow.touch {w w' : World} {base : Nat} {v : Value} {F : List FrameM} {T : TypeId} (h : FrRow w base v F) (ht : Touch T w w') (n1 : 44 ≠ T) (n2 : 3 ≠ T) : FrRow w' base v F := by
  obtain ⟨L, h1, h2, h3, h4⟩ := h
  exact ⟨L, ownsRow_touch n1 h1 ht, h2, fun x hx => ownsRow_touch n2 (h3 x hx) ht, h4⟩
theorem FrRow.base {w : World} {b B : Nat} {v : Value} {F : List FrameM} (h : FrRow w B v F) (hb : b ≤ B) : FrRow w b v F := by
  obtain ⟨L, h1, h2, h3, h4⟩ := h
  exact ⟨L, own_base hb h1, h2, fun x hx => own_base hb (h3 x hx), h4⟩
theorem FrRow.ok {w : World} {base : Nat} {v : Value} {F : List FrameM} (h : FrRow w base v F) : ∀ f ∈ F, okF f := by
  obtain ⟨L, _, _, _, h4, _⟩ := h; exact h4
theorem split_rev {L : List (FrameM × Value)} {f : FrameM} {r : List FrameM} (h : L.map Prod.fst = (f :: r).reverse) : ∃ a d, L = a ++ [(f, d)] ∧ a.map Prod.fst = r.reverse ∧ a.length = r.length := by
  rcases List.eq_nil_or_concat L with rfl | ⟨a, x, rfl⟩
  · simp at h
  · rw [List.concat_eq_append, List.map_append, List.reverse_cons] at h
    have h1 := List.append_inj' h rfl
    obtain ⟨h2, h3⟩ := h1
    simp only [List.map_cons, List.map_nil, List.cons.injEq, and_true] at h3
    refine ⟨a, x.2, by rw [List.concat_eq_append, ← h3], h2, ?_⟩
    have := congrArg List.length h2; simpa using this
/-- The activation on top: where it lies. -/
theorem FrRow.top {w : World} {base : Nat} {v : Value} {f : FrameM} {r : List FrameM} (h : FrRow w base v (f :: r)) : ∃ g c d, v = .slice (some ⟨g, 0, none⟩) (r.length + 1) c ∧ r.length + 1 ≤ c ∧ base ≤ g ∧ g < w.heap.size ∧
    w.cell? ⟨g, r.length * 5, none⟩ = some (.int .i64 f.id) ∧ w.cell? ⟨g, r.length * 5 + 1, none⟩ = some (.int .i64 f.mark) ∧ w.cell? ⟨g, r.length * 5 + 2, none⟩ = some (.int .i64 f.panic) ∧ w.cell? ⟨g, r.length * 5 + 3, none⟩ = some (.int .i64 f.phase) ∧ w.cell? ⟨g, r.length * 5 + 4, none⟩ = some d ∧
    (∀ j, w.frozen? ⟨g, j, none⟩ = false) ∧ OwnI w base d f.defers ∧ okF f ∧ ∃ cs, w.heap[g]? = some (.cells cs 44 (0, 0)) := by
  obtain ⟨L, h1, h2, h3, h4, h5⟩ := h
  obtain ⟨a, d, rfl, e1, e2⟩ := split_rev h2
  have hlen : (a ++ [(f, d)]).length = r.length + 1 := by simp [e2]
  rw [hlen] at h1
  obtain ⟨g, c, rfl, hc⟩ := rowSome h1 (by omega)
  obtain ⟨hg1, hg2⟩ := rowGe h1
  have cl : ∀ j, j < 5 → w.cell? ⟨g, r.length * 5 + j, none⟩ = (frCells f d)[j]? := fun j hj => by
    rw [(rowAt h1 (show r.length * 5 + j < (r.length + 1) * 5 by omega)).1, ← e2]
    exact flatF_at a [] (f, d) j hj
  have hblk : ∃ cs, w.heap[g]? = some (.cells cs 44 (0, 0)) := by
    rcases h1.2 with ⟨h6, _⟩ | ⟨g', cap, cur, hv, _, hg, _⟩
    · cases h6
    · cases hv; exact ⟨_, hg⟩
  refine ⟨g, c, d, rfl, hc, hg1, hg2, cl 0 (by omega), cl 1 (by omega), cl 2 (by omega), cl 3 (by omega), cl 4 (by omega), fun j => ?_, h3 (f, d) (by simp), h4 f (by simp), hblk⟩
  obtain ⟨cs, hb⟩ := hblk
  exact blk_free hb
/-- The top's phase. -/
theorem FrRow.phase {w : World} {base g c n : Nat} {f : FrameM} {r : List FrameM} (h : FrRow w base (.slice (some ⟨g, 0, none⟩) n c) (f :: r)) {ph : Int} (hp : okI ph) : FrRow (w.setCell ⟨g, r.length * 5 + 3, none⟩ (.int .i64 ph)) base (.slice (some ⟨g, 0, none⟩) n c) ({ f with phase := ph } :: r) := by
  obtain ⟨L, h1, h2, h3, h4, h5⟩ := h
  obtain ⟨a, d, rfl, e1, e2⟩ := split_rev h2
  have hlen : (a ++ [(f, d)]).length = r.length + 1 := by simp [e2]
  rw [hlen] at h1
  have hn : n = r.length + 1 := rowN h1
  subst hn
  obtain ⟨cs, fr, hb⟩ := rowBlk h1
  have ht := rowTouch (o := r.length * 5 + 3) hb (.int .i64 ph)
  refine ⟨a ++ [({ f with phase := ph }, d)], ?_, ?_, fun x hx => ?_, fun x hx => ?_, ?_⟩
  · have h6 := rowSet h1 (show r.length * 5 + 3 < (r.length + 1) * 5 by omega) (.int .i64 ph)
    rw [← e2] at h6 ⊢
    rw [flatF_set a [] (f, d) ({ f with phase := ph }, d) 3 (by omega) _ rfl] at h6
    simpa using h6
  · rw [List.map_append, e1, List.reverse_cons]; rfl
  · rcases List.mem_append.1 hx with hx | hx
    · exact ownsRow_touch (by decide) (h3 x (List.mem_append.2 (.inl hx))) ht
    · rw [List.mem_singleton] at hx; subst hx
      exact ownsRow_touch (by decide) (h3 (f, d) (by simp)) ht
  · rcases List.mem_cons.1 hx with rfl | hx
    · have := h4 f (by simp)
      exact ⟨this.1, this.2.1, this.2.2.1, hp, this.2.2.2.2⟩
    · exact h4 x (List.mem_cons_of_mem _ hx)
  · rw [List.pairwise_append] at h5 ⊢
    refine ⟨h5.1, List.pairwise_singleton _ _, fun x hx y hy => ?_⟩
    rw [List.mem_singleton] at hy; subst hy
    exact h5.2.2 x hx (f, d) (by simp)
theorem FrRow.pop {w : World} {base c n : Nat} {A : Option Addr} {f : FrameM} {r : List FrameM} (h : FrRow w base (.slice A n c) (f :: r)) : FrRow w base (.slice A r.length c) r := by
  obtain ⟨L, h1, h2, h3, h4, h5⟩ := h
  obtain ⟨a, d, rfl, e1, e2⟩ := split_rev h2
  have hlen : (a ++ [(f, d)]).length = r.length + 1 := by simp [e2]
  rw [hlen] at h1
  have hn : n = r.length + 1 := rowN h1
  subst hn
  have h6 := rowTake h1 (show r.length ≤ r.length + 1 by omega)
  rw [flatF_append, List.take_left' (by rw [flatF_len, e2])] at h6
  exact ⟨a, by rw [e2]; exact h6, e1, fun x hx => h3 x (List.mem_append.2 (.inl hx)), fun x hx => h4 x (List.mem_cons_of_mem _ hx), (List.pairwise_append.1 h5).1⟩
/-- A new one, appended. -/
theorem FrRow.push {w w' : World} {base n : Nat} {v v' : Value} {F : List FrameM} {f : FrameM} {L : List (FrameM × Value)} (h1 : w.ownsRow base 44 5 v L.length (flatF L)) (h2 : L.map Prod.fst = F.reverse) (h3 : ∀ x ∈ L, OwnI w base x.2 x.1.defers) (h4 : ∀ f ∈ F, okF f) (h5 : L.Pairwise Ap)
    (hg : w.grownBy w' v.ownBlock) (hn : n = L.length + 1) (h : w'.ownsRow base 44 5 v' n (flatF L ++ frCells f (.slice none 0 0))) (hd : f.defers = []) (hok : okF f) : FrX w' base v' (L ++ [(f, .slice none 0 0)]) (f :: F) := by
  subst hn
  have ht := Touch.of_grown h1 hg
  refine ⟨?_, ?_, fun x hx => ?_, fun x hx => ?_, ?_⟩
  · rw [flatF_append, List.length_append]
    have e : flatF [(f, Value.slice none 0 0)] = frCells f (.slice none 0 0) := by simp [flatF]
    rw [e]; exact h
  · rw [List.map_append, h2, List.reverse_cons]; rfl
  · rcases List.mem_append.1 hx with hx | hx
    · exact ownsRow_touch (by decide) (h3 x hx) ht
    · rw [List.mem_singleton] at hx; subst hx
      show OwnI _ _ _ f.defers
      rw [hd]; exact OwnI.nil _ _
  · rcases List.mem_cons.1 hx with rfl | hx
    · exact hok
    · exact h4 x hx
  · rw [List.pairwise_append]
    refine ⟨h5, List.pairwise_singleton _ _, fun x hx y hy => ?_⟩
    rw [List.mem_singleton] at hy; subst hy
    intro g _ hc; cases hc
/-- The deferred calls of the one below the top, cut. -/
theorem FrRow.cut {w : World} {base g c n : Nat} {t f : FrameM} {r : List FrameM} {rest : Value} {ds : List Int} (h : FrRow w base (.slice (some ⟨g, 0, none⟩) n c) (t :: f :: r)) (hd : ∀ d, w.cell? ⟨g, r.length * 5 + 4, none⟩ = some d → ∀ k, rest.ownBlock = some k → d.ownBlock = some k) (ho : OwnI w base rest ds) (hds : (∀ x ∈ ds, okI x) ∧ ds.length ≤ 1000000) :
    FrRow (w.setCell ⟨g, r.length * 5 + 4, none⟩ rest) base (.slice (some ⟨g, 0, none⟩) n c) (t :: { f with defers := ds } :: r) := by
  obtain ⟨L, h1, h2, h3, h4, h5⟩ := h
  obtain ⟨a', dt, rfl, e1', e2'⟩ := split_rev h2
  obtain ⟨a, d, rfl, e1, e2⟩ := split_rev e1'
  have hlen : (a ++ [(f, d)] ++ [(t, dt)]).length = r.length + 2 := by simp [e2]
  rw [hlen] at h1
  have hn : n = r.length + 2 := rowN h1
  subst hn
  obtain ⟨cs, fr, hb⟩ := rowBlk h1
  have ht := rowTouch (o := r.length * 5 + 4) hb rest
  have hform : a ++ [(f, d)] ++ [(t, dt)] = a ++ (f, d) :: [(t, dt)] := by simp
  have hd' := hd d (by
    rw [(rowAt h1 (show r.length * 5 + 4 < (r.length + 2) * 5 by omega)).1, hform, ← e2]
    exact flatF_at a [(t, dt)] (f, d) 4 (by omega))
  refine ⟨a ++ ({ f with defers := ds }, rest) :: [(t, dt)], ?_, ?_, fun x hx => ?_, fun x hx => ?_, ?_⟩
  · have h6 := rowSet h1 (show r.length * 5 + 4 < (r.length + 2) * 5 by omega) rest
    rw [hform, ← e2, flatF_set a [(t, dt)] (f, d) ({ f with defers := ds }, rest) 4 (by omega) _ rfl] at h6
    rw [← e2]
    simpa using h6
  · rw [List.map_append, e1]; simp
  · rcases List.mem_append.1 hx with hx | hx
    · exact ownsRow_touch (by decide) (h3 x (by simp [hx])) ht
    · rcases List.mem_cons.1 hx with rfl | hx
      · exact ownsRow_touch (by decide) ho ht
      · exact ownsRow_touch (by decide) (h3 x (by simp at hx; simp [hx])) ht
  · rcases List.mem_cons.1 hx with rfl | hx
    · exact h4 x (by simp)
    · rcases List.mem_cons.1 hx with rfl | hx
      · have := h4 f (by simp)
        exact ⟨this.1, this.2.1, this.2.2.1, this.2.2.2.1, hds.1, hds.2⟩
      · exact h4 x (by simp [hx])
  · rw [hform, List.pairwise_append] at h5
    rw [List.pairwise_append]
    obtain ⟨k1, k2, k3⟩ := h5
    rw [List.pairwise_cons] at k2
    refine ⟨k1, List.pairwise_cons.2 ⟨fun y hy q hq => k2.1 y hy q (hd' q hq), k2.2⟩, fun x hx y hy => ?_⟩
    rcases List.mem_cons.1 hy with rfl | hy
    · intro q hq hc
      exact k3 x hx (f, d) (by simp) q hq (hd' q hc)
    · exact k3 x hx y (List.mem_cons_of_mem _ hy)
/-- One deferred call more, of the top. -/
theorem FrRow.defer {w w2 : World} {base g c n : Nat} {f : FrameM} {r : List FrameM} {d d2 : Value} {ds : List Int} (h : FrRow w base (.slice (some ⟨g, 0, none⟩) n c) (f :: r)) (hc : w.cell? ⟨g, r.length * 5 + 4, none⟩ = some d) (hg : w.grownBy w2 d.ownBlock) (hm : Moved w d d2) (ho : OwnI w2 base d2 ds) (hds : (∀ x ∈ ds, okI x) ∧ ds.length ≤ 1000000) :
    FrRow (w2.setCell ⟨g, r.length * 5 + 4, none⟩ d2) base (.slice (some ⟨g, 0, none⟩) n c) ({ f with defers := ds } :: r) := by
  obtain ⟨L, h1, h2, h3, h4, h5⟩ := h
  obtain ⟨a, d', rfl, e1, e2⟩ := split_rev h2
  have hlen : (a ++ [(f, d')]).length = r.length + 1 := by simp [e2]
  rw [hlen] at h1
  have hn : n = r.length + 1 := rowN h1
  subst hn
  have hdd : d' = d := by
    have h6 := (rowAt h1 (show r.length * 5 + 4 < (r.length + 1) * 5 by omega)).1
    rw [← e2, flatF_at a [] (f, d') 4 (by omega), e2, hc] at h6
    exact (Option.some.inj h6).symm
  subst hdd
  have hdo : OwnI w base d' f.defers := h3 (f, d') (by simp)
  have hT := Touch.of_grown hdo hg
  have h1' := ownsRow_touch (e := 3) (by decide) h1 hT
  obtain ⟨cs, fr, hb⟩ := rowBlk h1'
  have ht := rowTouch (o := r.length * 5 + 4) hb d2
  have hap : ∀ x ∈ a, Ap x (f, d') := fun x hx => (List.pairwise_append.1 h5).2.2 x hx (f, d') (by simp)
  have hlt : ∀ x ∈ a, ∀ q, x.2.ownBlock = some q → q < w.heap.size := fun x hx q hq => (World.ownsRow.lt (h3 x (by simp [hx])) q hq).2
  refine ⟨a ++ [({ f with defers := ds }, d2)], ?_, ?_, fun x hx => ?_, fun x hx => ?_, ?_⟩
  · have h6 := rowSet h1' (show r.length * 5 + 4 < (r.length + 1) * 5 by omega) d2
    rw [← e2] at h6 ⊢
    rw [flatF_set a [] (f, d') ({ f with defers := ds }, d2) 4 (by omega) _ rfl] at h6
    simpa using h6
  · rw [List.map_append, e1, List.reverse_cons]; rfl
  · rcases List.mem_append.1 hx with hx | hx
    · refine ownsRow_touch (by decide) (World.ownsRow.kept (h3 x (List.mem_append.2 (.inl hx))) hg ?_) ht
      cases hxb : x.2.ownBlock with
      | none => exact .inl rfl
      | some q => exact .inr (fun e => hap x hx q hxb e.symm)
    · rw [List.mem_singleton] at hx; subst hx
      exact ownsRow_touch (by decide) ho ht
  · rcases List.mem_cons.1 hx with rfl | hx
    · have := h4 f (by simp)
      exact ⟨this.1, this.2.1, this.2.2.1, this.2.2.2.1, hds.1, hds.2⟩
    · exact h4 x (List.mem_cons_of_mem _ hx)
  · rw [List.pairwise_append]
    refine ⟨(List.pairwise_append.1 h5).1, List.pairwise_singleton _ _, fun x hx y hy => ?_⟩
    rw [List.mem_singleton] at hy; subst hy
    intro q hq hc
    rcases hm with hm | ⟨k, hk, hk2⟩
    · exact hap x hx q hq (hm.symm.trans hc)
    · have := hlt x hx q hq
      have e : (some k : Option Nat) = some q := hk.symm.trans hc
      injection e with e; omega

/-! ### panics in flight, and what was told -/
def okP (q : PanicM) : Prop := okI q.serial ∧ okI q.val.k ∧ okI q.val.n ∧ q.val.s.size ≤ 140737488351232 ∧ q.val.l = [] ∧ plainM q.val = q.val
def CeP (_w : World) (cs : List Value) (q : PanicM) : Prop := ∃ A c, cs = [.int .i64 q.serial, .int .i64 q.val.k, .int .i64 q.val.n, .string q.val.s, .slice A 0 c, .bool q.rcd, .bool q.abt] ∧ okP q
def okT (t : TellM) : Prop := okI t.kind ∧ okI t.n ∧ okI t.to ∧ okI t.v.k ∧ okI t.v.n ∧ t.v.s.size ≤ 140737488351232 ∧ t.v.l = []
def CeT (_w : World) (cs : List Value) (t : TellM) : Prop := ∃ A c, cs = [.int .i64 t.kind, .int .i64 t.n, .int .i64 t.to, .int .i64 t.v.k, .int .i64 t.v.n, .string t.v.s, .slice A 0 c] ∧ okT t
def PnRow (w : World) (base : Nat) (v : Value) (P : List PanicM) : Prop := OwnL CeP 7 46 w base v P.reverse
def TdRow (w : World) (base : Nat) (v : Value) (T : List TellM) : Prop := OwnL CeT 7 131 w base v T
theorem PnRow.kp {w w' : World} {base : Nat} {v : Value} {P : List PanicM} (h : PnRow w base v P) (hk : Kp w w') : PnRow w' base v P := OwnL.kp (fun _ _ _ _ _ h => h) h hk
theorem TdRow.kp {w w' : World} {base : Nat} {v : Value} {P : List TellM} (h : TdRow w base v P) (hk : Kp w w') : TdRow w' base v P := OwnL.kp (fun _ _ _ _ _ h => h) h hk
theorem PnRow.touch {w w' : World} {base : Nat} {v : Value} {P : List PanicM} {T : TypeId} (h : PnRow w base v P) (ht : Touch T w w') (n1 : 46 ≠ T) : PnRow w' base v P := by
  obtain ⟨xs, h1, h2⟩ := h
  exact ⟨xs, ownsRow_touch n1 h1 ht, Chunk.mono (w := w) (w' := w') (fun _ _ h => h) h2⟩
theorem TdRow.touch {w w' : World} {base : Nat} {v : Value} {P : List TellM} {T : TypeId} (h : TdRow w base v P) (ht : Touch T w w') (n1 : 131 ≠ T) : TdRow w' base v P := by
  obtain ⟨xs, h1, h2⟩ := h
  exact ⟨xs, ownsRow_touch n1 h1 ht, Chunk.mono (w := w) (w' := w') (fun _ _ h => h) h2⟩
theorem PnRow.len {w : World} {base : Nat} {v : Value} {P : List PanicM} (h : PnRow w base v P) : ∃ A c, v = .slice A P.length c ∧ P.length ≤ c := by
  obtain ⟨A, c, e, h1⟩ := (OwnL.rd h).form
  rw [List.length_reverse] at e h1
  exact ⟨A, c, e, h1⟩
theorem TdRow.len {w : World} {base : Nat} {v : Value} {P : List TellM} (h : TdRow w base v P) : ∃ A c, v = .slice A P.length c ∧ P.length ≤ c := (OwnL.rd h).form
/-- The last panic: where it lies. -/
theorem PnRow.at_ {w : World} {base i : Nat} {v : Value} {P : List PanicM} {q : PanicM} (h : PnRow w base v P) (hi : P.reverse[i]? = some q) : ∃ g c A' c', v = .slice (some ⟨g, 0, none⟩) P.length c ∧ P.length ≤ c ∧ base ≤ g ∧ g < w.heap.size ∧
    w.cell? ⟨g, i * 7, none⟩ = some (.int .i64 q.serial) ∧ w.cell? ⟨g, i * 7 + 1, none⟩ = some (.int .i64 q.val.k) ∧ w.cell? ⟨g, i * 7 + 2, none⟩ = some (.int .i64 q.val.n) ∧ w.cell? ⟨g, i * 7 + 3, none⟩ = some (.string q.val.s) ∧ w.cell? ⟨g, i * 7 + 4, none⟩ = some (.slice A' 0 c') ∧ w.cell? ⟨g, i * 7 + 5, none⟩ = some (.bool q.rcd) ∧ w.cell? ⟨g, i * 7 + 6, none⟩ = some (.bool q.abt) ∧
    (∀ j, w.frozen? ⟨g, j, none⟩ = false) ∧ okP q ∧ ∃ cs, w.heap[g]? = some (.cells cs 46 (0, 0)) := by
  obtain ⟨xs, h1, h2⟩ := h
  rw [List.length_reverse] at h1
  have hi2 : i < P.length := by have := (List.getElem?_eq_some_iff.1 hi).1; rwa [List.length_reverse] at this
  obtain ⟨g, c, rfl, hc⟩ := rowSome h1 (by omega)
  obtain ⟨hg1, hg2⟩ := rowGe h1
  obtain ⟨cs, ⟨A', c', rfl, hok⟩, _, h5⟩ := h2.get hi
  have cl : ∀ j, j < 7 → w.cell? ⟨g, i * 7 + j, none⟩ = ([.int .i64 q.serial, .int .i64 q.val.k, .int .i64 q.val.n, .string q.val.s, .slice A' 0 c', .bool q.rcd, .bool q.abt] : List Value)[j]? := fun j hj => by
    rw [(rowAt h1 (show i * 7 + j < P.length * 7 by omega)).1]; exact h5 j hj
  have hblk : ∃ cs, w.heap[g]? = some (.cells cs 46 (0, 0)) := by
    rcases h1.2 with ⟨h6, _⟩ | ⟨g', cap, cur, hv, _, hg, _⟩
    · cases h6
    · cases hv; exact ⟨_, hg⟩
  refine ⟨g, c, A', c', rfl, hc, hg1, hg2, cl 0 (by omega), cl 1 (by omega), cl 2 (by omega), cl 3 (by omega), cl 4 (by omega), cl 5 (by omega), cl 6 (by omega), fun j => ?_, hok, hblk⟩
  obtain ⟨cs, hb⟩ := hblk
  exact blk_free hb
/-- One mark of one panic, turned. -/
theorem PnRow.set {w : World} {base g c n i : Nat} {P : List PanicM} {q q' : PanicM} (h : PnRow w base (.slice (some ⟨g, 0, none⟩) n c) P) (hi : P.reverse[i]? = some q) (j : Nat) (hj : j < 7) (u : Value)
    (hu : ∀ A c, (([.int .i64 q.serial, .int .i64 q.val.k, .int .i64 q.val.n, .string q.val.s, .slice A 0 c, .bool q.rcd, .bool q.abt] : List Value).set j u) = [.int .i64 q'.serial, .int .i64 q'.val.k, .int .i64 q'.val.n, .string q'.val.s, .slice A 0 c, .bool q'.rcd, .bool q'.abt]) (hok : okP q → okP q') :
    OwnL CeP 7 46 (w.setCell ⟨g, i * 7 + j, none⟩ u) base (.slice (some ⟨g, 0, none⟩) n c) (P.reverse.set i q') := by
  obtain ⟨xs, h1, h2⟩ := h
  rw [List.length_reverse] at h1
  have hi2 : i < P.length := by have := (List.getElem?_eq_some_iff.1 hi).1; rwa [List.length_reverse] at this
  have hn : n = P.length := rowN h1
  subst hn
  refine ⟨xs.set (i * 7 + j) u, ?_, ?_⟩
  · rw [List.length_set, List.length_reverse]
    exact rowSet h1 (show i * 7 + j < P.length * 7 by omega) u
  · have h3 : Chunk CeP 7 (w.setCell ⟨g, i * 7 + j, none⟩ u) xs P.reverse := Chunk.mono (w := w) (w' := w.setCell ⟨g, i * 7 + j, none⟩ u) (fun _ _ h => h) h2
    refine Chunk.set j hj u h3 hi (fun cs hc hl => ?_)
    obtain ⟨A, c, rfl, ho⟩ := hc
    exact ⟨A, c, hu A c, hok ho⟩
theorem PnRow.pop {w : World} {base c n : Nat} {A : Option Addr} {q : PanicM} {s : List PanicM} (h : PnRow w base (.slice A n c) (q :: s)) : PnRow w base (.slice A s.length c) s := by
  obtain ⟨xs, h1, h2⟩ := h
  rw [List.length_reverse] at h1
  have hn : n = s.length + 1 := (rowN h1).trans (by simp)
  subst hn
  have h3 := rowTake h1 (show s.length ≤ s.length + 1 by omega)
  have h4 := h2.take s.length
  rw [List.reverse_cons, List.take_left' (by simp)] at h4
  exact ⟨_, by rw [List.length_reverse]; exact h3, h4⟩
theorem PnRow.push {w w' : World} {base n : Nat} {v v' : Value} {P : List PanicM} {q : PanicM} {A : Option Addr} {c : Nat} {xs : List Value} (h1 : w.ownsRow base 46 7 v P.length xs) (h2 : Chunk CeP 7 w xs P.reverse) (hn : n = P.length + 1)
    (h : w'.ownsRow base 46 7 v' n (xs ++ [.int .i64 q.serial, .int .i64 q.val.k, .int .i64 q.val.n, .string q.val.s, .slice A 0 c, .bool q.rcd, .bool q.abt])) (hok : okP q) : PnRow w' base v' (q :: P) := by
  unfold PnRow
  rw [List.reverse_cons]
  exact OwnL.snoc (by rw [List.length_reverse]; exact hn) h2 (fun _ _ h => h) ⟨A, c, rfl, hok⟩ rfl h
theorem TdRow.push {w w' : World} {base n : Nat} {v' : Value} {T : List TellM} {t : TellM} {A : Option Addr} {c : Nat} {xs : List Value} (h2 : Chunk CeT 7 w xs T) (hn : n = T.length + 1)
    (h : w'.ownsRow base 131 7 v' n (xs ++ [.int .i64 t.kind, .int .i64 t.n, .int .i64 t.to, .int .i64 t.v.k, .int .i64 t.v.n, .string t.v.s, .slice A 0 c])) (hok : okT t) : TdRow w' base v' (T ++ [t]) :=
  OwnL.snoc hn h2 (fun _ _ h => h) ⟨A, c, rfl, hok⟩ rfl h

/-! ### the player -/
def plCells (p : PlM) (fv pv tv : Value) : Array Value := #[fv, pv, .int .i64 p.next, .int .i64 p.ser, .int .i64 p.en, .int .i64 p.stat, tv]
structure Pl (w : World) (base pb : Nat) (fv pv tv : Value) (p : PlM) : Prop where
  blk : w.heap[pb]? = some (.cells (plCells p fv pv tv) 82 (0, 0))
  ge : base ≤ pb
  fr : FrRow w base fv p.fr
  pn : PnRow w base pv p.pn
  td : TdRow w base tv p.told
  ok : okI p.next ∧ okI p.ser ∧ okI p.en ∧ okI p.stat
def Player (w : World) (base pb : Nat) (p : PlM) : Prop := ∃ fv pv tv, Pl w base pb fv pv tv p
section
variable {w w' : World} {base pb : Nat} {fv pv tv : Value} {p : PlM}
theorem Pl.kp (h : Pl w base pb fv pv tv p) (hk : Kp w w') : Pl w' base pb fv pv tv p := ⟨(hk.block pb (blk_lt h.blk)).trans h.blk, h.ge, h.fr.kp hk, h.pn.kp hk, h.td.kp hk, h.ok⟩
theorem Player.kp (h : Player w base pb p) (hk : Kp w w') : Player w' base pb p := by
  obtain ⟨fv, pv, tv, h⟩ := h
  exact ⟨fv, pv, tv, h.kp hk⟩
theorem Pl.lt (h : Pl w base pb fv pv tv p) : pb < w.heap.size := blk_lt h.blk
theorem Pl.fz (h : Pl w base pb fv pv tv p) (o : Nat) : w.frozen? ⟨pb, o, none⟩ = false := blk_free h.blk
theorem Pl.c0 (h : Pl w base pb fv pv tv p) : w.cell? ⟨pb, 0, none⟩ = some fv := blk_cell h.blk rfl
theorem Pl.c1 (h : Pl w base pb fv pv tv p) : w.cell? ⟨pb, 1, none⟩ = some pv := blk_cell h.blk rfl
theorem Pl.c2 (h : Pl w base pb fv pv tv p) : w.cell? ⟨pb, 2, none⟩ = some (.int .i64 p.next) := blk_cell h.blk rfl
theorem Pl.c3 (h : Pl w base pb fv pv tv p) : w.cell? ⟨pb, 3, none⟩ = some (.int .i64 p.ser) := blk_cell h.blk rfl
theorem Pl.c4 (h : Pl w base pb fv pv tv p) : w.cell? ⟨pb, 4, none⟩ = some (.int .i64 p.en) := blk_cell h.blk rfl
theorem Pl.c5 (h : Pl w base pb fv pv tv p) : w.cell? ⟨pb, 5, none⟩ = some (.int .i64 p.stat) := blk_cell h.blk rfl
theorem Pl.c6 (h : Pl w base pb fv pv tv p) : w.cell? ⟨pb, 6, none⟩ = some tv := blk_cell h.blk rfl
theorem Pl.blkT {T : TypeId} (h : Pl w base pb fv pv tv p) (ht : Touch T w w') (n : 82 ≠ T) : w'.heap[pb]? = some (.cells (plCells p fv pv tv) 82 (0, 0)) := ht.2 pb _ h.blk (fun cs fr e => by injection e with _ e _; exact n e)
/-- What a store into the player's own cells leaves of the rows. -/
theorem Pl.self (h : Pl w base pb fv pv tv p) (o : Nat) (v : Value) : Touch 82 w (w.setCell ⟨pb, o, none⟩ v) := rowTouch h.blk v
theorem Pl.told_ (h : Pl w base pb fv pv tv p) (ht : Touch 131 w w') {tv2 : Value} {T2 : List TellM} (h2 : TdRow w' base tv2 T2) : Pl (w'.setCell ⟨pb, 6, none⟩ tv2) base pb fv pv tv2 { p with told := T2 } := by
  have hb := h.blkT ht (by decide)
  have hs := rowTouch (o := 6) hb tv2
  exact ⟨blk_set hb tv2, h.ge, (h.fr.touch ht (by decide) (by decide)).touch hs (by decide) (by decide), (h.pn.touch ht (by decide)).touch hs (by decide), h2.touch hs (by decide), h.ok⟩
theorem Pl.frames_ (h : Pl w base pb fv pv tv p) (ht : Touch 44 w w') {fv2 : Value} {F2 : List FrameM} (h2 : FrRow w' base fv2 F2) : Pl (w'.setCell ⟨pb, 0, none⟩ fv2) base pb fv2 pv tv { p with fr := F2 } := by
  have hb := h.blkT ht (by decide)
  have hs := rowTouch (o := 0) hb fv2
  exact ⟨blk_set hb fv2, h.ge, h2.touch hs (by decide) (by decide), (h.pn.touch ht (by decide)).touch hs (by decide), (h.td.touch ht (by decide)).touch hs (by decide), h.ok⟩
theorem Pl.panics_ (h : Pl w base pb fv pv tv p) (ht : Touch 46 w w') {pv2 : Value} {P2 : List PanicM} (h2 : PnRow w' base pv2 P2) : Pl (w'.setCell ⟨pb, 1, none⟩ pv2) base pb fv pv2 tv { p with pn := P2 } := by
  have hb := h.blkT ht (by decide)
  have hs := rowTouch (o := 1) hb pv2
  exact ⟨blk_set hb pv2, h.ge, (h.fr.touch ht (by decide) (by decide)).touch hs (by decide) (by decide), h2.touch hs (by decide), (h.td.touch ht (by decide)).touch hs (by decide), h.ok⟩
theorem Pl.inFr (h : Pl w base pb fv pv tv p) (ht : Touch 44 w w') {F2 : List FrameM} (h2 : FrRow w' base fv F2) : Pl w' base pb fv pv tv { p with fr := F2 } :=
  ⟨h.blkT ht (by decide), h.ge, h2, h.pn.touch ht (by decide), h.td.touch ht (by decide), h.ok⟩
theorem Pl.inPn (h : Pl w base pb fv pv tv p) (ht : Touch 46 w w') {P2 : List PanicM} (h2 : PnRow w' base pv P2) : Pl w' base pb fv pv tv { p with pn := P2 } :=
  ⟨h.blkT ht (by decide), h.ge, h.fr.touch ht (by decide) (by decide), h2, h.td.touch ht (by decide), h.ok⟩
theorem Pl.next_ (h : Pl w base pb fv pv tv p) {x : Int} (hx : okI x) : Pl (w.setCell ⟨pb, 2, none⟩ (.int .i64 x)) base pb fv pv tv { p with next := x } :=
  ⟨blk_set h.blk _, h.ge, h.fr.touch (h.self 2 _) (by decide) (by decide), h.pn.touch (h.self 2 _) (by decide), h.td.touch (h.self 2 _) (by decide), hx, h.ok.2⟩
theorem Pl.ser_ (h : Pl w base pb fv pv tv p) {x : Int} (hx : okI x) : Pl (w.setCell ⟨pb, 3, none⟩ (.int .i64 x)) base pb fv pv tv { p with ser := x } :=
  ⟨blk_set h.blk _, h.ge, h.fr.touch (h.self 3 _) (by decide) (by decide), h.pn.touch (h.self 3 _) (by decide), h.td.touch (h.self 3 _) (by decide), h.ok.1, hx, h.ok.2.2⟩
theorem Pl.en_ (h : Pl w base pb fv pv tv p) {x : Int} (hx : okI x) : Pl (w.setCell ⟨pb, 4, none⟩ (.int .i64 x)) base pb fv pv tv { p with en := x } :=
  ⟨blk_set h.blk _, h.ge, h.fr.touch (h.self 4 _) (by decide) (by decide), h.pn.touch (h.self 4 _) (by decide), h.td.touch (h.self 4 _) (by decide), h.ok.1, h.ok.2.1, hx, h.ok.2.2.2⟩
theorem Pl.stat_ (h : Pl w base pb fv pv tv p) {x : Int} (hx : okI x) : Pl (w.setCell ⟨pb, 5, none⟩ (.int .i64 x)) base pb fv pv tv { p with stat := x } :=
  ⟨blk_set h.blk _, h.ge, h.fr.touch (h.self 5 _) (by decide) (by decide), h.pn.touch (h.self 5 _) (by decide), h.td.touch (h.self 5 _) (by decide), h.ok.1, h.ok.2.1, h.ok.2.2.1, hx⟩
end
theorem elFrame5 : El Try.prog 33 44 (.agg #[.int .i64 0, .int .i64 0, .int .i64 0, .int .i64 0, .slice none 0 0]) 5 56 := elFrame
end Go.Proofs.Ytiicdknmoakocaa
