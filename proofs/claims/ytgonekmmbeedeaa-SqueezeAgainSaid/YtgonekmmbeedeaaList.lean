/-
  Slices of whatever elements: what they read as, and arguments of such types opened. No condition.
-/
import Derived.Test.YtgonekmmbeedeaaOpen
namespace Go.Proofs.Ytgonekmmbeedeaa
open Go.RowKit Go.ChangeShapes Go.WideShapes Go.Deep

/-- The slice v reads as the list l: each element's cells (sz of them) are what 'el' says of it. -/
def RdL {α : Type} (el : World → List Value → α → Prop) (sz : Nat) (w : World) (v : Value) (l : List α) : Prop :=
  ∃ A c, v = .slice A l.length c ∧ l.length ≤ c ∧ ∀ i a, l[i]? = some a → ∃ b off cs, A = some ⟨b, off, none⟩ ∧ b < w.heap.size ∧ el w cs a ∧ cs.length = sz ∧ ∀ j, j < sz → w.cell? ⟨b, off + i * sz + j, none⟩ = cs[j]?
/-- 'el' stands when memory grows. -/
def ElKp {α : Type} (el : World → List Value → α → Prop) : Prop := ∀ w w' cs a, Kp w w' → el w cs a → el w' cs a
theorem RdL.kp {α : Type} {el : World → List Value → α → Prop} (hel : ElKp el) {sz : Nat} {w w' : World} {v : Value} {l : List α} (h : RdL el sz w v l) (hk : Kp w w') : RdL el sz w' v l := by
  obtain ⟨A, c, h1, h2, h3⟩ := h
  refine ⟨A, c, h1, h2, fun i a hi => ?_⟩
  obtain ⟨b, off, cs, e, hb, he, hl, hc⟩ := h3 i a hi
  exact ⟨b, off, cs, e, Nat.lt_of_lt_of_le hb hk.le, hel _ _ _ _ hk he, hl, fun j hj => (hk.cells.1 _ _ hb).trans (hc j hj)⟩
theorem RdL.nil_ {α : Type} (el : World → List Value → α → Prop) (sz : Nat) (w : World) : RdL el sz w (.slice none 0 0) ([] : List α) := ⟨none, 0, rfl, Nat.le_refl _, fun i a hi => by simp at hi⟩

section
variable {H : Type} {enc : TypeId × Value → H} {W : World}
theorem weights_slice {t e : TypeId} {elems spare : List (DataW H)} (ht : Try.prog.underlying t = some (.slice e)) (hz : ∀ n ∈ DataW.weights Try.prog t (.slice elems spare), n ≤ reachBytes) :
    (elems.length + spare.length) * Try.prog.bytesOf e ≤ reachBytes ∧ ∀ d ∈ elems, ∀ n ∈ DataW.weights Try.prog e d, n ≤ reachBytes := by
  have hall : ∀ (l : List (DataW H)) (d : DataW H), d ∈ l → ∀ n ∈ DataW.weights Try.prog e d, n ∈ DataW.weightsAll Try.prog e l := by
    intro l
    induction l with
    | nil => intro d hd; simp at hd
    | cons x r ih =>
      intro d hd n hn
      simp only [DataW.weightsAll, List.mem_append]
      rcases List.mem_cons.1 hd with rfl | hd
      · exact .inl hn
      · exact .inr (ih d hd n hn)
  refine ⟨hz _ (by simp [DataW.weights, ht]), fun d hd n hn => hz n ?_⟩
  have := hall elems d hd n hn
  simp [DataW.weights, ht, this]
theorem weights_struct {t : TypeId} {fs : Array Field} {ds : List (DataW H)} (ht : Try.prog.underlying t = some (.struct fs)) (hz : ∀ n ∈ DataW.weights Try.prog t (.agg ds), n ≤ reachBytes) (j : Nat) (f : Field) (d : DataW H) (hf : fs[j]? = some f) (hd : ds[j]? = some d) :
    ∀ n ∈ DataW.weights Try.prog f.type d, n ≤ reachBytes := by
  intro n hn
  refine hz n ?_
  simp only [DataW.weights, ht]
  refine DataW.weights_mem_each (j := j) ?_ hd n hn
  rw [List.getElem?_map, Array.getElem?_toList, hf]; rfl
theorem list_choice {α : Type} : ∀ (n : Nat) (P : Nat → α → Prop), (∀ i, i < n → ∃ a, P i a) → ∃ l : List α, l.length = n ∧ ∀ i a, l[i]? = some a → P i a
  | 0, P, _ => ⟨[], rfl, fun i a h => by simp at h⟩
  | n + 1, P, h => by
    obtain ⟨l, hl, hp⟩ := list_choice n P (fun i hi => h i (by omega))
    obtain ⟨a, ha⟩ := h n (by omega)
    refine ⟨l ++ [a], by simp [hl], fun i x hx => ?_⟩
    rcases Nat.lt_or_ge i n with hi | hi
    · rw [List.getElem?_append_left (by omega)] at hx; exact hp i x hx
    · have hin : i = n := by
        rcases Nat.lt_or_ge n i with h2 | h2
        · rw [List.getElem?_eq_none (by simp; omega)] at hx; cases hx
        · omega
      subst hin
      rw [List.getElem?_append_right (by omega), hl, Nat.sub_self] at hx
      cases hx; exact ha
set_option maxRecDepth 100000 in
/-- A slice that came in, its elements opened one by one. -/
theorem open_list {α : Type} {el : World → List Value → α → Prop} {t e : TypeId} {sz by_ fuel : Nat} {cs : List Value} {d : DataW H} {p : List MemPlace} (ht : Try.prog.underlying t = some (.slice e)) (hC : Try.prog.cellsOf e = sz) (h0 : 0 < sz) (hby : Try.prog.bytesOf e = by_)
    (hop : ∀ fuel cs d p, DataW.trod enc Try.prog W 0 (fun _ => true) true fuel e cs = some (d, p) → (∀ n ∈ DataW.weights Try.prog e d, n ≤ reachBytes) → ∃ a, el W cs a)
    (h : DataW.trod enc Try.prog W 0 (fun _ => true) true fuel t cs = some (d, p)) (hz : ∀ n ∈ DataW.weights Try.prog t d, n ≤ reachBytes) : ∃ v l, cs = [v] ∧ RdL el sz W v l ∧ l.length * by_ ≤ reachBytes := by
  rcases open_slice ht h with ⟨h1, h2⟩ | ⟨a, len, cap, m, n, D, Pl, hcs, hb, hl, hm, hmm, hx, hi⟩
  · exact ⟨_, [], h1, RdL.nil_ _ _ _, by simp⟩
  · simp only [Prod.mk.injEq] at hx
    obtain ⟨rfl, rfl⟩ := hx
    obtain ⟨hw1, hw2⟩ := weights_slice ht hz
    simp only [if_true] at hmm
    have hel : ∀ i, i < len → ∃ a', ∃ cs', W.cells? 0 (a.add (i * sz)) sz = some cs' ∧ el W cs' a' := by
      intro i hil
      obtain ⟨cs', h1, h2⟩ := hi i (by rw [hmm]; omega)
      obtain ⟨a', h3⟩ := hop _ _ _ _ h2 (hw2 (D i) (by rw [List.mem_map]; exact ⟨i, by simpa using hil, rfl⟩))
      rw [hC] at h1
      exact ⟨a', cs', h1, h3⟩
    obtain ⟨l, hll, hg⟩ := list_choice len (fun i a' => ∃ cs', W.cells? 0 (a.add (i * sz)) sz = some cs' ∧ el W cs' a') hel
    refine ⟨_, l, hcs, ⟨some a, cap, by rw [hll], by omega, fun i x hx => ?_⟩, ?_⟩
    · have hil : i < len := by
        rcases Nat.lt_or_ge i len with h | h
        · exact h
        · rw [List.getElem?_eq_none (by omega)] at hx; cases hx
      have hs : a.spot = none := by
        obtain ⟨_, cs0, h1, _⟩ := hel 0 (by omega)
        obtain ⟨_, hcl, hat⟩ := World.cells?_some h1
        have h3 := hat 0 h0
        rw [List.getElem?_eq_getElem (by omega)] at h3
        have h4 := World.cell?_spot h3
        simpa [Addr.add] using h4
      obtain ⟨cs', h1, h2⟩ := hg i x hx
      obtain ⟨_, hcl, hat⟩ := World.cells?_some h1
      obtain ⟨b, off, spot⟩ := a
      obtain rfl : spot = none := hs
      have hadd1 : ∀ j, (⟨b, off, none⟩ : Addr).add j = ⟨b, off + j, none⟩ := by intro j; unfold Addr.add; split <;> simp_all
      have hadd : ∀ j, ((⟨b, off, none⟩ : Addr).add (i * sz)).add j = ⟨b, off + i * sz + j, none⟩ := by
        intro j; rw [hadd1]; unfold Addr.add; split <;> simp_all
      refine ⟨b, off, cs', rfl, ?_, h2, hcl, fun j hj => by rw [← hadd]; exact hat j hj⟩
      have h3 := hat 0 h0
      rw [List.getElem?_eq_getElem (by omega)] at h3
      have := block_lt_of_cell h3; rw [hadd] at this; exact this
    · rw [hby] at hw1
      simp only [List.length_map, List.length_range] at hw1
      rw [hll]
      exact Nat.le_trans (Nat.mul_le_mul_right _ (by omega)) hw1
end
end Go.Proofs.Ytgonekmmbeedeaa
