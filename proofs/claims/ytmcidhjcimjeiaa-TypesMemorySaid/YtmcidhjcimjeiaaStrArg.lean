/-
  Slices of texts that came in. No condition.
-/
import Derived.Test.YtmcidhjcimjeiaaTypesV
namespace Go.Proofs.Ytmcidhjcimjeiaa
set_option linter.unusedVariables false
open Go.RowKit Go.ChangeShapes Go.WideShapes Go.Deep

def CeStr (w : World) (cs : List Value) (s : ByteArray) : Prop := cs = [.string s] ∧ s.size ≤ 140737488351232
def RdStrs (w : World) (v : Value) (l : List ByteArray) : Prop := RdS w v l ∧ l.length * 16 ≤ 140737488351232 ∧ ∀ x ∈ l, x.size ≤ 140737488351232
section
variable {H : Type} {enc : TypeId × Value → H} {W : World} {base : Nat} {v : Value} {d : DataW H} {p : List MemPlace}
set_option maxRecDepth 100000 in
theorem open_strs (hval : Value.okWide Try.prog W .any base 56 v) (h : DataW.Trod enc Try.prog W 0 (fun _ => true) true 56 v d p) (hz : ∀ n ∈ DataW.weights Try.prog 56 d, n ≤ reachBytes) : ∃ l, RdStrs W v l := by
  obtain ⟨a0, len, cap, rfl⟩ := okWide_slice Try.underlying56 hval
  obtain ⟨fuel, hf⟩ := h
  obtain ⟨v', l, h1, h2, h3⟩ := open_list (el := CeStr) (sz := 1) (by_ := 16) Try.underlying56 (by kernel_rfl) (by omega) (by kernel_rfl) (fun fuel cs d p h hz => by
    obtain ⟨s, g, x, _⟩ := DataW.trod_string Try.underlying9 h
    cases x
    refine ⟨s, g, ?_⟩
    have := hz s.data.toList.length (by simp [DataW.weights])
    rw [Array.length_toList] at this; exact this) hf hz
  have : Value.slice a0 len cap = v' := (List.cons.inj h1).1
  subst this
  refine ⟨l, ?_, by unfold reachBytes at h3; omega, ?_⟩
  · obtain ⟨A, c, e, hc, hg⟩ := h2
    refine ⟨A, c, e, hc, fun i x hi => ?_⟩
    obtain ⟨b, off, cs, g1, g2, ⟨rfl, _⟩, _, g4⟩ := hg i x hi
    exact ⟨b, off, g1, g2, by have := g4 0 (by omega); simpa using this⟩
  · intro x hx
    obtain ⟨i, hi⟩ := List.getElem?_of_mem hx
    obtain ⟨A, c, e, hc, hg⟩ := h2
    obtain ⟨b, off, cs, g1, g2, ⟨_, g3⟩, _⟩ := hg i x hi
    exact g3
end
theorem RdS.src {w : World} {A : Option Addr} {n c : Nat} {l : List ByteArray} (h : RdS w (.slice A n c) l) : n = l.length ∧ (0 < n → ∃ ad, A = some ad ∧ ∀ j u, (l.map Value.string)[j]? = some u → w.cell? (ad.add j) = some u) := by
  obtain ⟨A', c', h1, _, h3⟩ := h
  cases h1
  refine ⟨rfl, fun hp => ?_⟩
  obtain ⟨x0, hx0⟩ : ∃ x, l[0]? = some x := ⟨l[0], List.getElem?_eq_getElem hp⟩
  obtain ⟨b, off, e, _, _⟩ := h3 0 x0 hx0
  refine ⟨_, e, fun j u hu => ?_⟩
  rw [List.getElem?_map, Option.map_eq_some_iff] at hu
  obtain ⟨x, hx, rfl⟩ := hu
  obtain ⟨b', off', e', _, hc⟩ := h3 j x hx
  rw [e] at e'; cases e'
  have ha : (⟨b, off, none⟩ : Addr).add j = ⟨b, off + j, none⟩ := by unfold Addr.add; split <;> simp_all
  rw [ha]; exact hc
end Go.Proofs.Ytmcidhjcimjeiaa
