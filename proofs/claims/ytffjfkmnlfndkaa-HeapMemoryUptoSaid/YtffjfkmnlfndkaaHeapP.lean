/-
  The laws' made heap, in plain words. No condition.
-/
import Derived.Test.YtffjfkmnlfndkaaHeapD
import Derived.Test.YtffjfkmnlfndkaaHeapN
import Derived.Test.YtffjfkmnlfndkaaSpot
import Derived.Test.YtffjfkmnlfndkaaMake
namespace Go.Proofs.Ytffjfkmnlfndkaa
open Go.RowKit
set_option linter.unusedVariables false

noncomputable def turnC (at_ : List Int) (c : CellM) : CellM := ⟨spotV c.tag 8, if spotV c.tag 8 = 6 ∧ 0 < at_.length then at_.getD (spotV c.n at_.length).toNat 0 else c.n⟩
noncomputable def putM (at_ : List Int) (p : Int) (cs : List CellM) : Nat → HeapM → HeapM
  | 0, H => H
  | j + 1, H => storeH (putM at_ p cs j H) p j (turnC at_ (cs.getD j ⟨0, 0⟩))
noncomputable def madeStep (S : HeapM × List Int) (m : MakeM) : HeapM × List Int :=
  if (allocC S.1 (1 + spotV (wrap64 (m.shape - 1)) 4) (spotV m.n 12)).2 ≠ 0 then S
  else (putM S.2 (allocC S.1 (1 + spotV (wrap64 (m.shape - 1)) 4) (spotV m.n 12)).1 m.cells m.cells.length (allocM S.1 (1 + spotV (wrap64 (m.shape - 1)) 4) (spotV m.n 12)), S.2 ++ [(allocC S.1 (1 + spotV (wrap64 (m.shape - 1)) 4) (spotV m.n 12)).1])
noncomputable def madeN (room : Int) (l : List MakeM) (k : Nat) : HeapM × List Int := (l.take k).foldl madeStep (newH (spotV room 400).toNat, [])
noncomputable def madeM (room : Int) (l : List MakeM) : HeapM × List Int := madeN room l 60
structure MadeOk (room : Nat) (S : HeapM × List Int) : Prop where
  sound : SoundS S.1.sizes
  lsz : S.1.sizes.length = S.1.cells.length
  lsh : S.1.shapes.length = S.1.cells.length
  room_ : S.1.cells.length = room
  at_ : ∀ p ∈ S.2, isB S.1 p = true
theorem storeH_same (H : HeapM) (p i : Int) (c : CellM) : (storeH H p i c).sizes = H.sizes ∧ (storeH H p i c).shapes = H.shapes ∧ (storeH H p i c).cells.length = H.cells.length := by
  unfold storeH
  split
  · exact ⟨rfl, rfl, by simp⟩
  · exact ⟨rfl, rfl, rfl⟩
theorem putM_same (at_ : List Int) (p : Int) (cs : List CellM) : ∀ (j : Nat) (H : HeapM), (putM at_ p cs j H).sizes = H.sizes ∧ (putM at_ p cs j H).shapes = H.shapes ∧ (putM at_ p cs j H).cells.length = H.cells.length
  | 0, H => ⟨rfl, rfl, rfl⟩
  | j + 1, H => by
    obtain ⟨a, b, c⟩ := putM_same at_ p cs j H
    obtain ⟨a', b', c'⟩ := storeH_same (putM at_ p cs j H) p j (turnC at_ (cs.getD j ⟨0, 0⟩))
    exact ⟨a'.trans a, b'.trans b, c'.trans c⟩
theorem isB_congr {H H' : HeapM} (h1 : H'.sizes = H.sizes) (h2 : H'.cells.length = H.cells.length) (p : Int) : isB H' p = isB H p := by unfold isB; rw [h1, h2]
theorem isB_sz {H : HeapM} (hl : H.sizes.length = H.cells.length) {p : Int} : isB H p = true ↔ 0 ≤ p ∧ 0 < sz H.sizes p.toNat := by
  constructor
  · intro h
    obtain ⟨k, rfl, _⟩ := isB_neg h
    exact ⟨by omega, (isB_iff hl k).1 h⟩
  · rintro ⟨h0, h⟩
    obtain ⟨k, rfl⟩ : ∃ k : Nat, p = k := ⟨p.toNat, by omega⟩
    exact (isB_iff hl k).2 h
/-- What Alloc does, where it does. -/
theorem alloc_ok {H : HeapM} (hs : SoundS H.sizes) {t n : Int} (h : (allocC H t n).2 = 0) : ∃ k : Nat, allocC H t n = ((k : Int), 0) ∧ allocM H t n = allocH H k n t ∧ 0 ≤ n ∧ (1 ≤ t ∧ t ≤ 4) ∧ Gap H.sizes (n + 1) k ∧ ∀ k', k' < k → ¬ Gap H.sizes (n + 1) k' := by
  unfold allocM
  rw [if_pos h]
  unfold allocC at h ⊢
  split at h
  · simp at h
  · split at h
    · simp at h
    · rename_i h1 h2
      rw [if_neg h1, if_neg h2]
      split at h
      · simp at h
      · rename_i k hk
        have hk' := hk
        unfold findM at hk'
        rw [find_eq] at hk'
        obtain ⟨g1, g2⟩ := find_some (n := n + 1) hs (by omega) hk'
        exact ⟨k, rfl, by simp, by omega, by omega, g1, g2⟩
theorem MadeOk.alloc {room : Nat} {H : HeapM} {at_ : List Int} (h : MadeOk room (H, at_)) {t n : Int} (ha : (allocC H t n).2 = 0) : MadeOk room (allocM H t n, at_ ++ [(allocC H t n).1]) := by
  obtain ⟨k, e1, e2, n0, _, g, _⟩ := alloc_ok (H := H) h.sound ha
  have g' : Gap H.sizes (n + 1) k := g
  have g3 : (k : Int) + (n + 1) ≤ H.sizes.length := g'.2.2
  have lsz : H.sizes.length = H.cells.length := h.lsz
  have hcl : (clearM H.cells k (n.toNat + 1)).length = H.cells.length := clearM_len _ _ _ (by omega)
  rw [e1, e2]
  have hl : (allocH H k n t).sizes.length = (allocH H k n t).cells.length := by simp only [allocH, hcl, List.length_set]; exact h.lsz
  have hk : k < H.sizes.length := by omega
  refine ⟨sound_alloc (S := H.sizes) h.sound (by omega) g, hl, ?_, by simp only [allocH, hcl]; exact h.room_, ?_⟩
  · simp only [allocH, hcl, List.length_set]; exact h.lsh
  · intro p hp
    rw [isB_sz hl]
    rcases List.mem_append.1 hp with hp | hp
    · obtain ⟨p0, p1⟩ := (isB_sz h.lsz).1 (h.at_ p hp)
      refine ⟨p0, ?_⟩
      show 0 < sz (H.sizes.set k (n + 1)) p.toNat
      rw [sz_set hk]
      split
      · omega
      · exact p1
    · rw [List.mem_singleton.1 hp]
      refine ⟨by omega, ?_⟩
      show 0 < sz (H.sizes.set k (n + 1)) _
      rw [sz_set hk, if_pos (by dsimp only; omega)]; omega
theorem MadeOk.same {room : Nat} {H H' : HeapM} {at_ : List Int} (h : MadeOk room (H, at_)) (e1 : H'.sizes = H.sizes) (e2 : H'.shapes = H.shapes) (e3 : H'.cells.length = H.cells.length) : MadeOk room (H', at_) :=
  ⟨by rw [e1]; exact h.sound, by rw [e1, e3]; exact h.lsz, by rw [e2, e3]; exact h.lsh, e3.trans h.room_, fun p hp => (isB_congr e1 e3 p).trans (h.at_ p hp)⟩
theorem MadeOk.step {room : Nat} {S : HeapM × List Int} (h : MadeOk room S) (m : MakeM) : MadeOk room (madeStep S m) := by
  unfold madeStep
  split
  · exact h
  · rename_i ha
    obtain ⟨e1, e2, e3⟩ := putM_same S.2 (allocC S.1 (1 + spotV (wrap64 (m.shape - 1)) 4) (spotV m.n 12)).1 m.cells m.cells.length (allocM S.1 (1 + spotV (wrap64 (m.shape - 1)) 4) (spotV m.n 12))
    exact (MadeOk.alloc (H := S.1) (at_ := S.2) h (Classical.not_not.1 ha)).same e1 e2 e3
theorem made_new (room : Int) (h : 0 ≤ spotV room 400) : MadeOk (spotV room 400).toNat (newH (spotV room 400).toNat, []) :=
  ⟨sound_new _, by simp [newH], by simp [newH], by simp [newH], fun p hp => by simp at hp⟩
theorem made_fold {room : Nat} : ∀ (l : List MakeM) (S : HeapM × List Int), MadeOk room S → MadeOk room (l.foldl madeStep S)
  | [], _, h => h
  | m :: l, S, h => made_fold l _ (h.step m)
theorem made_ok (room : Int) (l : List MakeM) (k : Nat) : MadeOk (spotV room 400).toNat (madeN room l k) := made_fold _ _ (made_new room (spotV_bd room 400 (by omega)).1)
theorem madeN_succ (room : Int) (l : List MakeM) (k : Nat) (m : MakeM) (h : l[k]? = some m) : madeN room l (k + 1) = madeStep (madeN room l k) m := by
  unfold madeN
  obtain ⟨hk, e⟩ := List.getElem?_eq_some_iff.1 h
  rw [List.take_add_one, h]
  simp only [Option.toList_some, List.foldl_append, List.foldl_cons, List.foldl_nil]
theorem madeN_all (room : Int) (l : List MakeM) (k : Nat) (h : l.length ≤ k) (h60 : k ≤ 60) : madeN room l k = madeM room l := by
  unfold madeM madeN; rw [List.take_of_length_le h, List.take_of_length_le (by omega)]
theorem madeStep_len (S : HeapM × List Int) (m : MakeM) : (madeStep S m).2.length ≤ S.2.length + 1 := by
  unfold madeStep; split
  · omega
  · simp
theorem madeN_len (room : Int) (l : List MakeM) (k : Nat) : (madeN room l k).2.length ≤ k := by
  have key : ∀ (l : List MakeM) (S : HeapM × List Int), (l.foldl madeStep S).2.length ≤ S.2.length + l.length := by
    intro l
    induction l with
    | nil => intro S; exact Nat.le_refl _
    | cons m l ih => intro S; have := ih (madeStep S m); have := madeStep_len S m; simp only [List.foldl_cons, List.length_cons]; omega
  have := key (l.take k) (newH (spotV room 400).toNat, [])
  unfold madeN; simp at this ⊢; omega
end Go.Proofs.Ytffjfkmnlfndkaa
