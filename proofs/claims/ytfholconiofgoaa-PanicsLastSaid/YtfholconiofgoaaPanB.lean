/-
  What is kept, and the stack, in memory: a row of rows of numbers and a row of numbers, all the call's own and apart. No condition.
-/
import Derived.Test.YtfholconiofgoaaPanE
import Derived.Test.YtfholconiofgoaaPanP
namespace Go.Proofs.Ytfholconiofgoaa
open Go.RowKit
set_option linter.unusedVariables false

/-- Two rows in blocks of their own. -/
def KAp (a b : List Int × Value) : Prop := ∀ g, a.2.ownBlock = some g → b.2.ownBlock ≠ some g
theorem KAp.symm {a b : List Int × Value} (h : KAp a b) : KAp b a := fun g h1 h2 => h g h2 h1
structure KS (w : World) (base : Nat) (kv sv : Value) (L : List (List Int × Value)) (S : List Int) : Prop where
  row : w.ownsRow base 23 1 kv L.length (L.map Prod.snd)
  stk : OwnI w base sv S
  inn : ∀ x ∈ L, OwnI w base x.2 x.1
  ap : L.Pairwise KAp
  far : ∀ x ∈ L, KAp x (S, sv)
section
variable {w w2 : World} {base : Nat} {kv sv : Value} {L : List (List Int × Value)} {S : List Int}
theorem KS.kp (h : KS w base kv sv L S) (hk : Kp w w2) : KS w2 base kv sv L S := ⟨ownsRow_keep h.row hk, ownsRow_keep h.stk hk, fun x hx => ownsRow_keep (h.inn x hx) hk, h.ap, h.far⟩
theorem KS.klen (h : KS w base kv sv L S) : ∃ A c, kv = .slice A L.length c ∧ L.length ≤ c := by
  rcases h.row.2 with ⟨rfl, h0⟩ | ⟨g, cap, cur, rfl, _, _, hnc, _⟩
  · exact ⟨none, 0, by rw [h0], by omega⟩
  · exact ⟨_, cap, rfl, by omega⟩
theorem KS.slen (h : KS w base kv sv L S) : ∃ A c, sv = .slice A S.length c ∧ S.length ≤ c := by
  rcases h.stk.2 with ⟨rfl, h0⟩ | ⟨g, cap, cur, rfl, _, _, hnc, _⟩
  · exact ⟨none, 0, by rw [h0], by omega⟩
  · exact ⟨_, cap, rfl, by omega⟩
/-- One number more on the stack. -/
theorem KS.spush {sv2 : Value} {S2 : List Int} (h : KS w base kv sv L S) (hg : w.grownBy w2 sv.ownBlock) (hm : Moved w sv sv2) (ho : OwnI w2 base sv2 S2) : KS w2 base kv sv2 L S2 := by
  have hT := Touch.of_grown h.stk hg
  refine ⟨ownsRow_touch (by decide) h.row hT, ho, fun x hx => World.ownsRow.kept (h.inn x hx) hg ?_, h.ap, fun x hx q hq hc => ?_⟩
  · cases hxb : x.2.ownBlock with
    | none => exact .inl rfl
    | some q => exact .inr (fun e => h.far x hx q hxb e.symm)
  · have hc' : sv2.ownBlock = some q := hc
    rcases hm with hm | ⟨k, hk, hk2⟩
    · exact h.far x hx q hq (hm.symm.trans hc')
    · have := (World.ownsRow.lt (h.inn x hx) q hq).2
      rw [hk] at hc'; injection hc' with e; omega
/-- The stack, cut. -/
theorem KS.spop {A : Option Addr} {n c k : Nat} (h : KS w base kv (.slice A n c) L S) (hk : k ≤ S.length) : KS w base kv (.slice A k c) L (S.take k) := by
  have hn : n = S.length := rowN h.stk
  subst hn
  have h6 := rowTake h.stk hk
  rw [Nat.mul_one, ← List.map_take] at h6
  refine ⟨h.row, ?_, h.inn, h.ap, fun x hx q hq hc => h.far x hx q hq ?_⟩
  · unfold OwnI; rw [List.length_take, Nat.min_eq_left hk]; exact h6
  · cases A <;> exact hc
/-- Nothing kept, of one activation more. -/
theorem KS.kpush {kv2 : Value} {n : Nat} (h : KS w base kv sv L S) (hg : w.grownBy w2 kv.ownBlock) (hn : n = L.length + 1) (ho : w2.ownsRow base 23 1 kv2 n (L.map Prod.snd ++ [.slice none 0 0])) : KS w2 base kv2 sv (L ++ [([], .slice none 0 0)]) S := by
  subst hn
  have hT := Touch.of_grown h.row hg
  refine ⟨by rw [List.length_append, List.map_append]; exact ho, ownsRow_touch (by decide) h.stk hT, fun x hx => ?_, ?_, fun x hx => ?_⟩
  · rcases List.mem_append.1 hx with hx | hx
    · exact ownsRow_touch (by decide) (h.inn x hx) hT
    · rw [List.mem_singleton] at hx; subst hx; exact OwnI.nil _ _
  · rw [List.pairwise_append]
    refine ⟨h.ap, List.pairwise_singleton _ _, fun x hx y hy => ?_⟩
    rw [List.mem_singleton] at hy; subst hy
    intro g _ hc; cases hc
  · rcases List.mem_append.1 hx with hx | hx
    · exact h.far x hx
    · rw [List.mem_singleton] at hx; subst hx
      intro g hc; cases hc
/-- What one activation keeps, put anew. -/
theorem KS.put {g n c i : Nat} {d d2 : Value} {ds ds2 : List Int} (h : KS w base (.slice (some ⟨g, 0, none⟩) n c) sv L S) (hi : L[i]? = some (ds, d)) (hg : w.grownBy w2 d.ownBlock) (hm : Moved w d d2) (ho : OwnI w2 base d2 ds2) :
    KS (w2.setCell ⟨g, i, none⟩ d2) base (.slice (some ⟨g, 0, none⟩) n c) sv (L.set i (ds2, d2)) S := by
  obtain ⟨hil, hie⟩ := List.getElem?_eq_some_iff.1 hi
  have hmem : (ds, d) ∈ L := List.mem_of_getElem? hi
  have hn : n = L.length := rowN h.row
  subst hn
  have hdo : OwnI w base d ds := h.inn _ hmem
  have hT := Touch.of_grown hdo hg
  have h1' := ownsRow_touch (e := 3) (by decide) h.row hT
  obtain ⟨cs, fr, hb⟩ := rowBlk h1'
  have ht := rowTouch (o := i) hb d2
  have hlt : ∀ x ∈ L, ∀ q, x.2.ownBlock = some q → q < w.heap.size := fun x hx q hq => (World.ownsRow.lt (h.inn x hx) q hq).2
  have hpw := List.pairwise_iff_getElem.1 h.ap
  have hapart : ∀ j (hj : j < L.length), j ≠ i → KAp L[j] (ds, d) := by
    intro j hj hne
    rcases Nat.lt_or_gt_of_ne hne with h2 | h2
    · have := hpw j i hj hil h2; rwa [hie] at this
    · have := (hpw i j hil hj h2).symm; rwa [hie] at this
  have hnew : ∀ x : List Int × Value, (∀ q, x.2.ownBlock = some q → q < w.heap.size) → KAp x (ds, d) → KAp x (ds2, d2) := by
    intro x hx ha q hq hc
    have hc' : d2.ownBlock = some q := hc
    rcases hm with hm | ⟨k, hk, hk2⟩
    · exact ha q hq (hm.symm.trans hc')
    · have := hx q hq
      rw [hk] at hc'; injection hc' with e; omega
  have hstk : KAp (S, sv) (ds, d) := (h.far _ hmem).symm
  have hkeep : ∀ x : List Int × Value, KAp x (ds, d) → OwnI w base x.2 x.1 → OwnI (w2.setCell ⟨g, i, none⟩ d2) base x.2 x.1 := by
    intro x ha hx
    refine ownsRow_touch (by decide) (World.ownsRow.kept hx hg ?_) ht
    cases hxb : x.2.ownBlock with
    | none => exact .inl rfl
    | some q => exact .inr (fun e => ha q hxb e.symm)
  refine ⟨?_, hkeep (S, sv) hstk h.stk, fun x hx => ?_, ?_, fun x hx => ?_⟩
  · have h6 := rowSet h1' (show i < L.length * 1 by omega) d2
    rw [List.length_set, List.map_set]
    exact h6
  · obtain ⟨j, hj⟩ := List.getElem?_of_mem hx
    by_cases e : j = i
    · subst e
      rw [List.getElem?_set_self hil] at hj
      injection hj with hj; subst hj
      exact ownsRow_touch (by decide) ho ht
    · rw [List.getElem?_set_ne (Ne.symm e)] at hj
      obtain ⟨hjl, rfl⟩ := List.getElem?_eq_some_iff.1 hj
      exact hkeep _ (hapart j hjl e) (h.inn _ (List.getElem_mem _))
  · rw [List.pairwise_iff_getElem]
    intro a b ha hb2 hab
    rw [List.length_set] at ha hb2
    rw [List.getElem_set, List.getElem_set]
    by_cases e1 : i = a
    · rw [if_pos e1, if_neg (by omega)]
      exact (hnew _ (hlt _ (List.getElem_mem _)) (hapart b hb2 (by omega))).symm
    · rw [if_neg e1]
      by_cases e2 : i = b
      · rw [if_pos e2]; exact hnew _ (hlt _ (List.getElem_mem _)) (hapart a ha (by omega))
      · rw [if_neg e2]; exact hpw a b ha hb2 hab
  · obtain ⟨j, hj⟩ := List.getElem?_of_mem hx
    by_cases e : j = i
    · subst e
      rw [List.getElem?_set_self hil] at hj
      injection hj with hj; subst hj
      exact (hnew (S, sv) (fun q hq => (World.ownsRow.lt h.stk q hq).2) hstk).symm
    · rw [List.getElem?_set_ne (Ne.symm e)] at hj
      obtain ⟨hjl, rfl⟩ := List.getElem?_eq_some_iff.1 hj
      exact h.far _ (List.getElem_mem _)
end
theorem KS.top {w : World} {base : Nat} {kv sv : Value} {L : List (List Int × Value)} {x : Int} {r : List Int} (h : KS w base kv sv L (x :: r).reverse) : ∃ sb sc, sv = .slice (some ⟨sb, 0, none⟩) (r.length + 1) sc ∧ sb < w.heap.size ∧ w.cell? ⟨sb, r.length, none⟩ = some (.int .i64 x) ∧ r.length + 1 ≤ sc := by
  have hl : (x :: r).reverse.length = r.length + 1 := by simp
  have hs := h.stk
  unfold OwnI at hs
  rw [hl] at hs
  obtain ⟨sb, sc, rfl, hle⟩ := rowSome hs (by omega)
  refine ⟨sb, sc, rfl, (rowGe hs).2, ?_, hle⟩
  rw [(rowAt hs (show r.length < (r.length + 1) * 1 by omega)).1, List.getElem?_map, List.reverse_cons, List.getElem?_append_right (by simp)]
  simp [intV]
theorem KS.at_ {w : World} {base i : Nat} {kv sv d : Value} {ds S : List Int} {L : List (List Int × Value)} (h : KS w base kv sv L S) (hi : L[i]? = some (ds, d)) : ∃ kb kc, kv = .slice (some ⟨kb, 0, none⟩) L.length kc ∧ kb < w.heap.size ∧ w.cell? ⟨kb, i, none⟩ = some d ∧ w.frozen? ⟨kb, i, none⟩ = false ∧ OwnI w base d ds := by
  have hil := (List.getElem?_eq_some_iff.1 hi).1
  have hr := h.row
  obtain ⟨kb, kc, rfl, _⟩ := rowSome hr (by omega)
  obtain ⟨g1, g2⟩ := rowAt hr (show i < L.length * 1 by omega)
  exact ⟨kb, kc, rfl, (rowGe hr).2, by rw [g1, List.getElem?_map, hi]; rfl, g2, h.inn _ (List.mem_of_getElem? hi)⟩
theorem kept_at {L : List (List Int × Value)} {i : Nat} {ds : List Int} (h : (L.map Prod.fst)[i]? = some ds) : ∃ d, L[i]? = some (ds, d) := by
  rw [List.getElem?_map] at h
  cases hl : L[i]? with
  | none => rw [hl] at h; cases h
  | some y =>
    rw [hl] at h
    injection h with h
    exact ⟨y.2, by rw [← h]⟩
end Go.Proofs.Ytfholconiofgoaa
