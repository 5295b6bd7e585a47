/-
  Slices of integers that came in, opened. No condition.
-/
import Derived.Test.YtgonekmmbeedeaaMem
import Derived.Deep.Slices
import Derived.Deep.Draws
import Derived.Deep.QuietTactic
import Derived.BigQuiet
import Derived.SizedLaws
namespace Go.Proofs.Ytgonekmmbeedeaa
open Go.RowKit Go.ChangeShapes Go.WideShapes Go.Deep

/-! ### arguments -/
section
variable {H : Type} {enc : TypeId × Value → H} {W : World} {base : Nat} {v : Value} {d : DataW H} {p : List MemPlace}
set_option maxRecDepth 100000 in
/-- A slice of integers that came in, opened at its cell. -/
theorem open_zs_cells {t e : TypeId} {k : IntKind} {by_ fuel : Nat} {cs : List Value} (ht : Try.prog.underlying t = some (.slice e)) (he : Try.prog.underlying e = some (.int k)) (hc : Try.prog.cellsOf e = 1) (hby : Try.prog.bytesOf e = by_)
    (hf : DataW.trod enc Try.prog W 0 (fun _ => true) true fuel t cs = some (d, p)) (hz : ∀ n ∈ DataW.weights Try.prog t d, n ≤ reachBytes) :
    ∃ zs : List Int, zs.length * by_ ≤ reachBytes ∧ (∀ z ∈ zs, (Lit.int k z).wf = true) ∧ ∃ A c, cs = [.slice A zs.length c] ∧ zs.length ≤ c ∧ (0 < zs.length → ∃ b off, A = some ⟨b, off, none⟩ ∧ b < W.heap.size ∧ ∀ j, j < zs.length → W.cell? ⟨b, off + j, none⟩ = some (.int k (zs.getD j 0))) := by
  rcases open_ints ht he hc hf with ⟨hcs, hx⟩ | ⟨a, len, cap, zs, hcs, _, hl, hm, hzl, hx, hcell, hwz⟩
  · exact ⟨[], by simp, fun z hz => by simp at hz, none, 0, hcs, Nat.le_refl _, fun h => absurd h (by simp)⟩
  · subst hcs
    simp only [Prod.mk.injEq] at hx
    obtain ⟨rfl, rfl⟩ := hx
    simp only [if_true] at hzl
    have hlen : (zs.take len).length = len := by rw [List.length_take]; omega
    have hreach : zs.length * by_ ≤ reachBytes := by
      have := hz (((lits (H := H) k (zs.take len)).length + (lits (H := H) k (zs.drop len)).length) * Try.prog.bytesOf e) (by simp [DataW.weights, ht])
      rw [hby] at this
      simp only [lits, List.length_map, List.length_take, List.length_drop] at this
      rw [show min len zs.length + (zs.length - len) = zs.length by omega] at this
      exact this
    refine ⟨zs.take len, ?_, fun z hz => hwz z (List.mem_of_mem_take hz), some a, cap, by rw [hlen], by omega, fun hp => ?_⟩
    · rw [hlen]; exact Nat.le_trans (Nat.mul_le_mul_right _ (by omega)) hreach
    · have hs := World.cell?_spot (hcell 0 (by omega))
      obtain ⟨b, off, spot⟩ := a
      obtain rfl : spot = none := by simpa [Addr.add] using hs
      have hadd : ∀ j, (⟨b, off, none⟩ : Addr).add j = ⟨b, off + j, none⟩ := by intro j; unfold Addr.add; split <;> simp_all
      refine ⟨b, off, rfl, ?_, fun j hj => ?_⟩
      · have := block_lt_of_cell (hcell 0 (by omega)); rw [hadd] at this; exact this
      · have := hcell j (by omega)
        rw [hadd] at this; rw [this]
        rw [List.getD_eq_getElem?_getD, List.getD_eq_getElem?_getD, List.getElem?_take, if_pos (by omega)]
set_option maxRecDepth 100000 in
/-- A slice of integers that came in, opened. -/
theorem open_zs {t e : TypeId} {k : IntKind} {by_ : Nat} (ht : Try.prog.underlying t = some (.slice e)) (he : Try.prog.underlying e = some (.int k)) (hc : Try.prog.cellsOf e = 1) (hby : Try.prog.bytesOf e = by_)
    (hval : Value.okWide Try.prog W .any base t v) (h : DataW.Trod enc Try.prog W 0 (fun _ => true) true t v d p) (hz : ∀ n ∈ DataW.weights Try.prog t d, n ≤ reachBytes) :
    ∃ zs : List Int, zs.length * by_ ≤ reachBytes ∧ (∀ z ∈ zs, (Lit.int k z).wf = true) ∧ ∃ A c, v = .slice A zs.length c ∧ zs.length ≤ c ∧ (0 < zs.length → ∃ b off, A = some ⟨b, off, none⟩ ∧ b < W.heap.size ∧ ∀ j, j < zs.length → W.cell? ⟨b, off + j, none⟩ = some (.int k (zs.getD j 0))) := by
  obtain ⟨a0, len, cap, rfl⟩ := okWide_slice ht hval
  obtain ⟨fuel, hf⟩ := h
  obtain ⟨zs, h1, h2, A, c, h3, h4⟩ := open_zs_cells ht he hc hby hf hz
  exact ⟨zs, h1, h2, A, c, (List.cons.inj h3).1, h4⟩
end
end Go.Proofs.Ytgonekmmbeedeaa
