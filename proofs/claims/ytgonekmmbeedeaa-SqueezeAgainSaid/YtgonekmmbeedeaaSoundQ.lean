/-
  Package code, plainly: laws of soundM. No condition.
-/
import Derived.Test.YtgonekmmbeedeaaSoundV
namespace Go.Proofs.Ytgonekmmbeedeaa
open Go.RowKit
set_option linter.unusedVariables false

theorem sound_none {c : CodeM} (h : c.funcs = []) : soundM c = (16, -1, -1) := by unfold soundM; rw [if_pos h]
theorem sound_full {c : CodeM} (h : c.funcs ≠ []) (hb : 400 < c.funcs.length ∨ 2000 < c.texts.length) : soundM c = (15, -1, -1) := by unfold soundM; rw [if_neg h, if_pos hb]
theorem textE_cases (s : ByteArray) : textE s = 0 ∧ s.size ≤ 200 ∧ okAll s.data.toList ∨ textE s = 4 ∧ ¬ (s.size ≤ 200 ∧ okAll s.data.toList) := by
  unfold textE
  split
  · rename_i h; exact .inl ⟨rfl, h.1, h.2⟩
  · rename_i h; exact .inr ⟨rfl, h⟩
theorem sound_text {c : CodeM} {k : Nat} {s : ByteArray} (hn : c.funcs ≠ []) (hb : ¬ (400 < c.funcs.length ∨ 2000 < c.texts.length)) (hall : ∀ j t, j < k → c.texts[j]? = some t → textE t = 0) (hk : c.texts[k]? = some s) (he : textE s = 4) : soundM c = ((4 : Int), (-1 : Int), (k : Int)) := by
  have h := firstE_some (p := fun (_ : Nat) s => textE s) (k := 0) (n := k) (fun i b hi hib => hall i b hi hib) hk (by rw [he]; decide)
  unfold soundM
  rw [if_neg hn, if_neg hb, h]
  simp only [he, Nat.zero_add]
theorem sound_fn {c : CodeM} {k : Nat} {f : FnM} (hn : c.funcs ≠ []) (hb : ¬ (400 < c.funcs.length ∨ 2000 < c.texts.length)) (ht : ∀ (j : Nat) t, c.texts[j]? = some t → textE t = 0) (hall : ∀ j g, j < k → c.funcs[j]? = some g → (fnE c j g).1 = 0) (hk : c.funcs[k]? = some f) {e a : Int} (hf : fnE c k f = (e, a)) (he : e ≠ 0) : soundM c = (e, (k : Int), a) := by
  have h1 := firstE_none (p := fun (_ : Nat) s => textE s) (k := 0) (l := c.texts) (fun i a hi => ht i a hi)
  have h2 := firstE_some (p := fun k f => (fnE c k f).1) (k := 0) (n := k) (fun i b hi hib => by rw [Nat.zero_add]; exact hall i b hi hib) hk (by rw [Nat.zero_add, hf]; exact he)
  unfold soundM
  rw [if_neg hn, if_neg hb, h1, h2]
  simp only [Nat.zero_add, hf, hk, Option.map_some, Option.getD_some]
theorem sound_ok {c : CodeM} (hn : c.funcs ≠ []) (hb : ¬ (400 < c.funcs.length ∨ 2000 < c.texts.length)) (ht : ∀ (j : Nat) t, c.texts[j]? = some t → textE t = 0) (hall : ∀ (j : Nat) g, c.funcs[j]? = some g → (fnE c j g).1 = 0) : soundM c = (0, 0, 0) := by
  have h1 := firstE_none (p := fun (_ : Nat) s => textE s) (k := 0) (l := c.texts) (fun i a hi => ht i a hi)
  have h2 := firstE_none (p := fun k f => (fnE c k f).1) (k := 0) (l := c.funcs) (fun i a hi => by rw [Nat.zero_add]; exact hall i a hi)
  unfold soundM
  rw [if_neg hn, if_neg hb, h1, h2]
theorem fnE_head {c : CodeM} {k : Nat} {f : FnM} (h : headM k f ≠ 0) : fnE c k f = (headM k f, -1) := by unfold fnE; rw [if_pos h]
theorem fnE_ins {c : CodeM} {k a : Nat} {f : FnM} {i : InsM} (h : headM k f = 0) (hall : ∀ j b, j < a → f.ins[j]? = some b → insM c f b = 0) (ha : f.ins[a]? = some i) (he : insM c f i ≠ 0) : fnE c k f = (insM c f i, (a : Int)) := by
  have h2 := firstE_some (p := fun (_ : Nat) i => insM c f i) (k := 0) (n := a) (fun i b hi hib => hall i b hi hib) ha he
  unfold fnE
  rw [if_neg (by rw [h]; simp), h2]
  simp only [Nat.zero_add]
theorem fnE_last {c : CodeM} {k : Nat} {f : FnM} (h : headM k f = 0) (hall : ∀ (j : Nat) b, f.ins[j]? = some b → insM c f b = 0) (hl : lastOk f = false) : fnE c k f = (11, (f.ins.length : Int) - 1) := by
  have h2 := firstE_none (p := fun (_ : Nat) i => insM c f i) (k := 0) (l := f.ins) (fun i b hi => hall i b hi)
  unfold fnE
  rw [if_neg (by rw [h]; simp), h2]
  simp only [hl, Bool.false_eq_true, if_false]
theorem fnE_ok {c : CodeM} {k : Nat} {f : FnM} (h : headM k f = 0) (hall : ∀ (j : Nat) b, f.ins[j]? = some b → insM c f b = 0) (hl : lastOk f = true) : fnE c k f = (0, 0) := by
  have h2 := firstE_none (p := fun (_ : Nat) i => insM c f i) (k := 0) (l := f.ins) (fun i b hi => hall i b hi)
  unfold fnE
  rw [if_neg (by rw [h]; simp), h2]
  simp only [hl, if_true]
/-- What the head's check lets through. -/
theorem head_ok {k : Nat} {f : FnM} (h : headM k f = 0) : NamedP f.name ∧ 0 ≤ f.params ∧ f.params ≤ 4 ∧ f.params ≤ f.slots ∧ f.slots ≤ 3000 ∧ 0 ≤ f.caps ∧ f.caps ≤ 200 ∧ ¬ (k = 0 ∧ (0 < f.params ∨ 0 < f.caps)) ∧ f.ins ≠ [] ∧ f.ins.length ≤ 20000 := by
  unfold headM at h
  split at h
  · cases h
  rename_i h1
  split at h
  · cases h
  rename_i h2
  split at h
  · cases h
  rename_i h3
  split at h
  · cases h
  rename_i h4
  split at h
  · cases h
  rename_i h5
  have h2' : withinB f.params 0 4 = true ∧ withinB f.slots f.params 3000 = true ∧ withinB f.caps 0 200 = true := by
    rcases Classical.em (withinB f.params 0 4 = true ∧ withinB f.slots f.params 3000 = true ∧ withinB f.caps 0 200 = true) with h | h
    · exact h
    · exact absurd h h2
  rw [withinB_iff, withinB_iff, withinB_iff] at h2'
  exact ⟨Classical.byContradiction h1, h2'.1.1, h2'.1.2, h2'.2.1.1, h2'.2.1.2, h2'.2.2.1, h2'.2.2.2, h3, h4, by omega⟩
/-- What a sound code is. -/
theorem sound_inv {c : CodeM} (h : (soundM c).1 = 0) : c.funcs ≠ [] ∧ c.funcs.length ≤ 400 ∧ c.texts.length ≤ 2000 ∧ (∀ (j : Nat) t, c.texts[j]? = some t → textE t = 0) ∧ (∀ (k : Nat) f, c.funcs[k]? = some f → headM k f = 0 ∧ (∀ (j : Nat) i, f.ins[j]? = some i → insM c f i = 0) ∧ lastOk f = true) ∧ soundM c = (0, 0, 0) := by
  by_cases hn : c.funcs = []
  · rw [sound_none hn] at h; cases h
  by_cases hb : 400 < c.funcs.length ∨ 2000 < c.texts.length
  · rw [sound_full hn hb] at h; cases h
  have h1 : firstE (fun (_ : Nat) s => textE s) 0 c.texts = none := by
    cases hq : firstE (fun (_ : Nat) s => textE s) 0 c.texts with
    | none => rfl
    | some p =>
      obtain ⟨i, e⟩ := p
      have he : ∀ {k : Nat} {l : List ByteArray} {i : Nat} {e : Int}, firstE (fun (_ : Nat) s => textE s) k l = some (i, e) → e ≠ 0 := by
        intro k l
        induction l generalizing k with
        | nil => intro i e h; cases h
        | cons a l ih =>
          intro i e h
          unfold firstE at h
          split at h
          · exact ih h
          · rename_i h0; injection h with h; injection h with _ h; subst h; exact h0
      unfold soundM at h
      rw [if_neg hn, if_neg hb, hq] at h
      exact absurd h (he hq)
  have h2 : firstE (fun k f => (fnE c k f).1) 0 c.funcs = none := by
    cases hq : firstE (fun k f => (fnE c k f).1) 0 c.funcs with
    | none => rfl
    | some p =>
      obtain ⟨i, e⟩ := p
      have he : ∀ {k : Nat} {l : List FnM} {i : Nat} {e : Int}, firstE (fun k f => (fnE c k f).1) k l = some (i, e) → e ≠ 0 := by
        intro k l
        induction l generalizing k with
        | nil => intro i e h; cases h
        | cons a l ih =>
          intro i e h
          unfold firstE at h
          split at h
          · exact ih h
          · rename_i h0; injection h with h; injection h with _ h; subst h; exact h0
      unfold soundM at h
      rw [if_neg hn, if_neg hb, h1, hq] at h
      exact absurd h (he hq)
  have ht := fun (j : Nat) t (hj : c.texts[j]? = some t) => firstE_ok h1 j t hj
  have hf := fun (k : Nat) f (hk : c.funcs[k]? = some f) => firstE_ok h2 k f hk
  refine ⟨hn, by omega, by omega, ht, fun k f hk => ?_, ?_⟩
  · have h0 := hf k f hk
    rw [Nat.zero_add] at h0
    by_cases hh : headM k f = 0
    · refine ⟨hh, ?_⟩
      have h3 : firstE (fun (_ : Nat) i => insM c f i) 0 f.ins = none := by
        cases hq : firstE (fun (_ : Nat) i => insM c f i) 0 f.ins with
        | none => rfl
        | some p =>
          obtain ⟨i, e⟩ := p
          have he : ∀ {k : Nat} {l : List InsM} {i : Nat} {e : Int}, firstE (fun (_ : Nat) i => insM c f i) k l = some (i, e) → e ≠ 0 := by
            intro k l
            induction l generalizing k with
            | nil => intro i e h; cases h
            | cons a l ih =>
              intro i e h
              unfold firstE at h
              split at h
              · exact ih h
              · rename_i h0; injection h with h; injection h with _ h; subst h; exact h0
          unfold fnE at h0
          rw [if_neg (by rw [hh]; simp), hq] at h0
          exact absurd h0 (he hq)
      refine ⟨fun j i hj => firstE_ok h3 j i hj, ?_⟩
      unfold fnE at h0
      rw [if_neg (by rw [hh]; simp), h3] at h0
      simp only at h0
      split at h0
      · rename_i hl; exact hl
      · cases h0
    · rw [fnE_head hh] at h0; exact absurd h0 hh
  · unfold soundM; rw [if_neg hn, if_neg hb, h1, h2]
end Go.Proofs.Ytgonekmmbeedeaa
