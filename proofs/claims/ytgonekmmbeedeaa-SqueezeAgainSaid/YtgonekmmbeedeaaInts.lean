/-
  Slices of ints: what they read as, and rows that a call owns. No condition.
-/
import Derived.Test.YtgonekmmbeedeaaOpen
namespace Go.Proofs.Ytgonekmmbeedeaa
open Go.RowKit Go.ChangeShapes Go.WideShapes Go.Deep

/-- A number of 64 bits. -/
def okI (n : Int) : Prop := -9223372036854775808 ≤ n ∧ n ≤ 9223372036854775807
def intV (n : Int) : Value := .int .i64 n
theorem elInt : El Try.prog 52 3 (.int .i64 0) 1 8 := El.mk_ Try.underlying52 (by kernel_rfl) rfl (by omega)
/-- The slice v reads as these numbers. -/
def RdInts (w : World) (v : Value) (xs : List Int) : Prop :=
  xs.length * 8 ≤ 140737488355328 ∧ (∀ x ∈ xs, okI x) ∧ ∃ A c, v = .slice A xs.length c ∧ xs.length ≤ c ∧ (0 < xs.length → ∃ b off, A = some ⟨b, off, none⟩ ∧ b < w.heap.size ∧ ∀ j, j < xs.length → w.cell? ⟨b, off + j, none⟩ = some (intV (xs.getD j 0)))
theorem RdInts.kp {w w' : World} {v : Value} {xs : List Int} (h : RdInts w v xs) (hk : Kp w w') : RdInts w' v xs := by
  obtain ⟨h0, hr, A, c, h1, h2, h3⟩ := h
  refine ⟨h0, hr, A, c, h1, h2, fun hp => ?_⟩
  obtain ⟨b, off, e, hb, hc⟩ := h3 hp
  exact ⟨b, off, e, Nat.lt_of_lt_of_le hb hk.le, fun j hj => (hk.cells.1 _ _ hb).trans (hc j hj)⟩
theorem RdInts.form {w : World} {v : Value} {xs : List Int} (h : RdInts w v xs) : ∃ A c, v = .slice A xs.length c := by obtain ⟨_, _, A, c, e, _⟩ := h; exact ⟨A, c, e⟩
theorem RdInts.drewN {w : World} {v : Value} {xs : List Int} (h : RdInts w v xs) (n : Nat) : RdInts (w.drewN n) v xs := h
theorem RdInts.drew {w : World} {v : Value} {xs : List Int} (h : RdInts w v xs) : RdInts w.drew v xs := h
theorem RdInts.nil_ (w : World) : RdInts w (.slice none 0 0) [] := ⟨by simp, fun x hx => by simp at hx, none, 0, rfl, Nat.le_refl _, fun h => absurd h (by simp)⟩
theorem oneInt (xs : List Int) : ∀ u ∈ xs.map intV, u.oneCell' = true := by
  intro u hu; rw [List.mem_map] at hu; obtain ⟨b, _, rfl⟩ := hu; rfl
/-- What an append of it wants. -/
theorem RdInts.src {w : World} {A : Option Addr} {n c : Nat} {xs : List Int} (h : RdInts w (.slice A n c) xs) : n = xs.length ∧ (0 < n → ∃ ad, A = some ad ∧ ∀ j u, (xs.map intV)[j]? = some u → w.cell? (ad.add j) = some u) := by
  obtain ⟨_, _, A', c', h1, h2, h3⟩ := h
  cases h1
  refine ⟨rfl, fun hp => ?_⟩
  obtain ⟨b, off, e, _, hc⟩ := h3 hp
  refine ⟨_, e, fun j u hu => ?_⟩
  have hj : j < xs.length := by
    rcases Nat.lt_or_ge j xs.length with h | h
    · exact h
    · rw [List.getElem?_eq_none (by simpa using h)] at hu; cases hu
  have ha : (⟨b, off, none⟩ : Addr).add j = ⟨b, off + j, none⟩ := by unfold Addr.add; split <;> simp_all
  rw [ha, hc j hj]
  rw [List.getElem?_map, List.getElem?_eq_getElem hj] at hu
  simp [List.getD, List.getElem?_eq_getElem hj] at hu ⊢
  exact hu
/-- v is a row of the call's own that holds these numbers. -/
def OwnI (w : World) (base : Nat) (v : Value) (xs : List Int) : Prop := w.ownsRow base 3 1 v xs.length (xs.map intV)
theorem OwnI.nil (w : World) (base : Nat) : OwnI w base (.slice none 0 0) [] := World.ownsRow_nil _ _ _ _
theorem OwnI.rd {w : World} {base : Nat} {v : Value} {xs : List Int} (h : OwnI w base v xs) (hl : xs.length * 8 ≤ 140737488355328) (hr : ∀ x ∈ xs, okI x) : RdInts w v xs := by
  refine ⟨hl, hr, ?_⟩
  rcases h.2 with ⟨rfl, h0⟩ | ⟨g, cap, cur, rfl, _, hg, hnc, _, hsz, htk⟩
  · exact ⟨none, 0, by rw [h0], by omega, fun h => absurd h (by omega)⟩
  · refine ⟨_, cap, rfl, hnc, fun _ => ⟨g, 0, rfl, ?_, fun j hj => ?_⟩⟩
    · rcases Nat.lt_or_ge g w.heap.size with h | h
      · exact h
      · rw [Array.getElem?_eq_none h] at hg; cases hg
    · have hc : w.cell? ⟨g, 0 + j, none⟩ = cur[j]? := by simp [World.cell?, hg]
      rw [hc]
      have h3 : cur.toList[j]? = (xs.map intV)[j]? := by rw [← htk]; rw [List.getElem?_take]; rw [if_pos (by omega)]
      rw [Array.getElem?_toList] at h3
      rw [h3]
      simp [List.getD, List.getElem?_eq_getElem hj]
section
variable {H : Type} {enc : TypeId × Value → H} {W : World} {base : Nat} {v : Value} {d : DataW H} {p : List MemPlace}
set_option maxRecDepth 100000 in
theorem open_ints_cells {fuel : Nat} {cs : List Value} (hf : DataW.trod enc Try.prog W 0 (fun _ => true) true fuel 52 cs = some (d, p)) (hz : ∀ n ∈ DataW.weights Try.prog 52 d, n ≤ reachBytes) : ∃ v xs, cs = [v] ∧ RdInts W v xs ∧ xs.length * 8 ≤ 140737488351232 := by
  obtain ⟨zs, h1, h2, A, c, h3, h4, h5⟩ := open_zs_cells (by_ := 8) Try.underlying52 Try.underlying3 (by kernel_rfl) (by kernel_rfl) hf hz
  unfold reachBytes at h1
  exact ⟨_, zs, h3, ⟨by omega, fun z hz => Go.bounds_i64 (h2 z hz), A, c, rfl, h4, h5⟩, by omega⟩
set_option maxRecDepth 100000 in
theorem open_ints_ (hval : Value.okWide Try.prog W .any base 52 v) (h : DataW.Trod enc Try.prog W 0 (fun _ => true) true 52 v d p) (hz : ∀ n ∈ DataW.weights Try.prog 52 d, n ≤ reachBytes) : ∃ xs, RdInts W v xs := by
  obtain ⟨zs, h1, h2, A, c, h3, h4, h5⟩ := open_zs (by_ := 8) Try.underlying52 Try.underlying3 (by kernel_rfl) (by kernel_rfl) hval h hz
  exact ⟨zs, by unfold reachBytes at h1; omega, fun z hz => Go.bounds_i64 (h2 z hz), A, c, h3, h4, h5⟩
end
end Go.Proofs.Ytgonekmmbeedeaa
