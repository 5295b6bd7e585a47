/-
  Package types: what the laws on made and taken types want. Condition: the texts lie within the reach.
-/
import Derived.Test.YtmcidhjcimjeiaaTypesG
namespace Go.Proofs.Ytmcidhjcimjeiaa
open Go.RowKit
set_option linter.unusedVariables false

theorem bs_self (S : ByteArray) : bsB S.data.toList = S := by unfold bsB; cases S; rfl
theorem bs_data (l : Bs) : (bsB l).data.toList = l := by unfold bsB; simp
theorem rd_own {w : World} {base : Nat} {v : Value} {l : List ByteArray} (h : OwnS w base v l) : RdS w v l := by
  rcases Nat.eq_zero_or_pos l.length with h0 | h0
  · obtain rfl := List.eq_nil_of_length_eq_zero h0
    rcases h.2 with ⟨rfl, _⟩ | ⟨g, cap, cur, rfl, _⟩
    · exact ⟨none, 0, rfl, Nat.le_refl _, fun i x hi => by simp at hi⟩
    · exact ⟨_, cap, rfl, Nat.zero_le _, fun i x hi => by simp at hi⟩
  · obtain ⟨g, c, rfl, hg, hgl, hlc, hcell⟩ := h.form h0
    exact ⟨_, c, rfl, hlc, fun i x hi => ⟨g, 0, rfl, hgl, by rw [Nat.zero_add]; exact hcell i x hi⟩⟩
theorem const_parts : partsM [102, 117, 110, 99, 40, 41, 102, 117, 110, 99, 40, 105, 110, 116, 41, 97, 110, 121] = some ([] ++ [[102, 117, 110, 99, 40, 105, 110, 116, 41, 97, 110, 121]]) := by decide +kernel
theorem ParamsP.no {w : World} {o : Option (List Bs)} {e : Ending} {w' : World} (h : ParamsP w o e w') (ho : o = none) : e = .returned (.tuple #[.slice none 0 0, .int .i64 9]) ∧ Kp w w' := by
  rcases h with ⟨_, _, _, h1, _⟩ | ⟨_, h⟩
  · rw [ho] at h1; cases h1
  · exact h
theorem ParamsP.yes {w : World} {o : Option (List Bs)} {ps : List Bs} {q : Bs} {e : Ending} {w' : World} (h : ParamsP w o e w') (ho : o = some (ps ++ [q])) : ∃ v, e = .returned (.tuple #[v, .int .i64 0]) ∧ OwnS w' w.heap.size v (ps.map bsB) ∧ Kp w w' ∧ v ≠ .slice none 0 0 := by
  rcases h with ⟨ps', q', v, h1, h2⟩ | ⟨h1, _⟩
  · rw [ho] at h1
    have := Option.some.inj h1
    obtain ⟨rfl, _⟩ := List.append_inj' this rfl
    exact ⟨v, h2⟩
  · rw [ho] at h1; cases h1
theorem ResultP.no {w : World} {o : Option (List Bs)} {e : Ending} {w' : World} (h : ResultP w o e w') (ho : o = none) : e = .returned (.tuple #[.string ⟨#[]⟩, .int .i64 9]) ∧ Kp w w' := by
  rcases h with ⟨_, _, h1, _⟩ | ⟨_, h⟩
  · rw [ho] at h1; cases h1
  · exact h
theorem ResultP.yes {w : World} {o : Option (List Bs)} {ps : List Bs} {q : Bs} {e : Ending} {w' : World} (h : ResultP w o e w') (ho : o = some (ps ++ [q])) : e = .returned (.tuple #[.string (bsB q), .int .i64 0]) ∧ Kp w w' := by
  rcases h with ⟨ps', q', h1, h2⟩ | ⟨h1, _⟩
  · rw [ho] at h1
    have := Option.some.inj h1
    obtain ⟨_, h3⟩ := List.append_inj' this rfl
    cases h3
    exact h2
  · rw [ho] at h1; cases h1
theorem parts_map (l : List Bs) : partsOf (l.map bsB) = l := by
  unfold partsOf; rw [List.map_map]
  have : ((fun x : ByteArray => x.data.toList) ∘ bsB) = id := by funext x; exact bs_data x
  rw [this, List.map_id]
theorem func_back {t : Bs} {ps : List Bs} {q : Bs} (h : partsM t = some (ps ++ [q])) : funcM (ps.map bsB) (bsB q) = (t, 0) ∧ validB t = true ∧ ps.length ≤ 4 ∧ (∀ p ∈ ps, p.length ≤ 100) ∧ q.length ≤ 100 := by
  obtain ⟨ps', q', e, h4, hv, hq, ht, hl, hvt⟩ := parts_back h
  obtain ⟨rfl, e2⟩ := List.append_inj' e rfl
  cases e2
  refine ⟨?_, hvt, h4, fun p hp => valid_le (hv p hp), ?_⟩
  · unfold funcM madeB
    rw [List.length_map, if_neg (by omega), parts_map, bs_data]
    have e1 : ps.all validB = true := List.all_eq_true.2 hv
    rw [e1, if_neg (by decide)]
    have e2 : ((!(q == [])) && !validB q) = false := by
      by_cases h0 : q = []
      · subst h0; rfl
      · rw [hq h0]; simp
    rw [e2, if_neg (by decide), ← ht, if_neg (by omega)]
  · by_cases h0 : q = []
    · subst h0; simp
    · exact valid_le (hq h0)
end Go.Proofs.Ytmcidhjcimjeiaa
