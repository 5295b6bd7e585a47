/-
  Plain laws of Show, Same, Plain, May; four values in boxes. No condition.
-/
import Derived.Test.YtffjfkmnlfndkaaPlain
import Derived.Test.YtffjfkmnlfndkaaShown
import Derived.Test.YtffjfkmnlfndkaaLine
namespace Go.Proofs.Ytffjfkmnlfndkaa
open Go.RowKit
set_option linter.unusedVariables false

theorem same_show {a b : ValM} (h : sameM a b = true) : showM a = showM b := by
  unfold sameM at h
  by_cases hk : a.k = b.k
  · rw [if_neg (fun e => e hk)] at h
    unfold showM
    rw [← hk]
    by_cases k2 : a.k = 2
    · rw [if_pos k2] at h
      have h' : (a.n != 0) = (b.n != 0) := by simpa using h
      by_cases ha : a.n = 0
      · have hb : b.n = 0 := by
          rw [show (a.n != 0) = false by simp [ha]] at h'
          simpa using h'.symm
        simp [k2, ha, hb]
      · have hb : ¬ b.n = 0 := by
          rw [show (a.n != 0) = true by simp [ha]] at h'
          simpa using h'.symm
        simp [k2, ha, hb]
    · rw [if_neg k2] at h
      by_cases k1 : a.k = 1 ∨ a.k = 7 ∨ a.k = 8
      · rw [if_pos k1] at h
        have h' : a.n = b.n := by simpa using h
        rw [h']
        rcases k1 with k1 | k1 | k1 <;> simp [k1]
      · rw [if_neg k1] at h
        by_cases k3 : a.k = 3 ∨ a.k = 5
        · rw [if_pos k3] at h
          have h' : a.s.toList = b.s.toList := by simpa using h
          rw [ByteArray.toList_eq, ByteArray.toList_eq] at h'
          have h2 : a.s = b.s := by
            have e : a.s.data = b.s.data := by apply Array.toList_inj.1; exact h'
            cases ha : a.s; cases hb : b.s; rw [ha, hb] at e; simp at e; rw [e]
          rw [if_neg (by omega), if_neg k2, if_pos k3, if_neg (by omega), if_neg k2, if_pos k3, h2]
        · rw [if_neg k3] at h
          by_cases k6 : a.k = 6
          · rw [if_pos k6] at h
            have h' : a.l = b.l := by simpa using h
            rw [h']
            simp [k6]
          · have h1 : ¬ a.k = 1 := fun e => k1 (.inl e)
            have h7 : ¬ a.k = 7 := fun e => k1 (.inr (.inl e))
            have h8 : ¬ a.k = 8 := fun e => k1 (.inr (.inr e))
            simp [h1, k2, k3, k6, h7, h8]
  · rw [if_pos hk] at h; cases h
theorem plain_k (m : ValM) : (plainM m).k = (if 1 ≤ m.k ∧ m.k ≤ 8 then m.k else 0) := by
  unfold plainM
  by_cases k2 : m.k = 2
  · simp [k2]
  by_cases k1 : m.k = 1 ∨ m.k = 7 ∨ m.k = 8
  · rw [if_neg k2, if_pos k1, if_pos (by omega)]
  by_cases k3 : m.k = 3 ∨ m.k = 5
  · rw [if_neg k2, if_neg k1, if_pos k3, if_pos (by omega)]
  by_cases k6 : m.k = 6
  · rw [if_neg k2, if_neg k1, if_neg k3, if_pos k6, if_pos (by omega)]; exact k6.symm
  by_cases k4 : m.k = 4
  · rw [if_neg k2, if_neg k1, if_neg k3, if_neg k6, if_pos k4, if_pos (by omega)]; exact k4.symm
  · rw [if_neg k2, if_neg k1, if_neg k3, if_neg k6, if_neg k4, if_neg (by omega)]
theorem plain_same (m : ValM) (h : 1 ≤ m.k ∧ m.k ≤ 8) : sameM (plainM m) m = true := by
  have hk := plain_k m
  rw [if_pos h] at hk
  unfold sameM
  rw [if_neg (fun e => e hk), hk]
  unfold plainM
  by_cases k2 : m.k = 2
  · rw [if_pos k2, if_pos k2]
    by_cases h0 : m.n = 0
    · rw [if_pos h0]; simp [h0]
    · rw [if_neg h0]; simp [h0]
  · rw [if_neg k2, if_neg k2]
    by_cases k1 : m.k = 1 ∨ m.k = 7 ∨ m.k = 8
    · rw [if_pos k1, if_pos k1]; simp
    · rw [if_neg k1, if_neg k1]
      by_cases k3 : m.k = 3 ∨ m.k = 5
      · rw [if_pos k3, if_pos k3]; simp
      · rw [if_neg k3, if_neg k3]
        by_cases k6 : m.k = 6
        · rw [if_pos k6, if_pos k6]; simp
        · rw [if_neg k6]
theorem plain_show (m : ValM) : showM (plainM m) = showM m := by
  by_cases h : 1 ≤ m.k ∧ m.k ≤ 8
  · exact same_show (plain_same m h)
  · have hp : plainM m = ⟨0, 0, ⟨#[]⟩, []⟩ := by unfold plainM; rw [if_neg (by omega), if_neg (by omega), if_neg (by omega), if_neg (by omega), if_neg (by omega)]
    rw [hp]
    unfold showM
    simp only
    rw [if_neg (by omega), if_neg (by omega), if_neg (by omega), if_neg (by omega), if_neg (by omega), if_neg (by omega), if_neg (by omega)]
    rw [if_neg (by omega), if_neg (by omega), if_neg (by omega), if_neg (by omega), if_neg (by omega), if_neg (by omega), if_neg (by omega)]
theorem plain_idem (m : ValM) : plainM (plainM m) = plainM m := by
  by_cases k2 : m.k = 2
  · have hp : plainM m = ⟨2, if m.n = 0 then 0 else 1, ⟨#[]⟩, []⟩ := by unfold plainM; rw [if_pos k2]
    rw [hp]; unfold plainM; by_cases h0 : m.n = 0 <;> simp [h0]
  · by_cases k1 : m.k = 1 ∨ m.k = 7 ∨ m.k = 8
    · have hp : plainM m = ⟨m.k, m.n, ⟨#[]⟩, []⟩ := by unfold plainM; rw [if_neg k2, if_pos k1]
      rw [hp]; unfold plainM; simp only; rw [if_neg k2, if_pos k1]
    · by_cases k3 : m.k = 3 ∨ m.k = 5
      · have hp : plainM m = ⟨m.k, 0, m.s, []⟩ := by unfold plainM; rw [if_neg k2, if_neg k1, if_pos k3]
        rw [hp]; unfold plainM; simp only; rw [if_neg k2, if_neg k1, if_pos k3]
      · by_cases k6 : m.k = 6
        · have hp : plainM m = ⟨6, 0, ⟨#[]⟩, m.l⟩ := by unfold plainM; rw [if_neg k2, if_neg k1, if_neg k3, if_pos k6]
          rw [hp]; unfold plainM; simp
        · by_cases k4 : m.k = 4
          · have hp : plainM m = ⟨4, 0, ⟨#[]⟩, []⟩ := by unfold plainM; rw [if_neg k2, if_neg k1, if_neg k3, if_neg k6, if_pos k4]
            rw [hp]; unfold plainM; simp
          · have hp : plainM m = ⟨0, 0, ⟨#[]⟩, []⟩ := by unfold plainM; rw [if_neg k2, if_neg k1, if_neg k3, if_neg k6, if_neg k4]
            rw [hp]; unfold plainM; simp
theorem plain_may (m : ValM) : mayM (plainM m) = mayM m := by
  unfold mayM
  rw [plain_k]
  by_cases h : 1 ≤ m.k ∧ m.k ≤ 8
  · rw [if_pos h]
  · rw [if_neg h]
    have h1 : (m.k == 1) = false := by simp; omega
    have h3 : (m.k == 3) = false := by simp; omega
    have h5 : (m.k == 5) = false := by simp; omega
    rw [h1, h3, h5]; rfl
theorem plain_len (m : ValM) : (plainM m).l.length ≤ m.l.length := by
  unfold plainM
  split
  · simp
  split
  · simp
  split
  · simp
  split
  · simp
  split <;> simp

abbrev Held4 (w : World) (g0 g1 g2 g3 : Nat) (m0 m1 m2 m3 : ValM) (l0 l1 l2 l3 : Value) (w' : World) : Prop :=
  Boxed w' g0 m0 l0 ∧ Boxed w' g1 m1 l1 ∧ Boxed w' g2 m2 l2 ∧ Boxed w' g3 m3 l3 ∧ Kp w w' ∧ g0 < w'.heap.size ∧ g1 < w'.heap.size ∧ g2 < w'.heap.size ∧ g3 < w'.heap.size
theorem Held4.kp {w w' w2 : World} {g0 g1 g2 g3 : Nat} {m0 m1 m2 m3 : ValM} {l0 l1 l2 l3 : Value} (h : Held4 w g0 g1 g2 g3 m0 m1 m2 m3 l0 l1 l2 l3 w') (hk : Kp w' w2) : Held4 w g0 g1 g2 g3 m0 m1 m2 m3 l0 l1 l2 l3 w2 := by
  obtain ⟨h0, h1, h2, h3, h4, h5, h6, h7, h8⟩ := h
  have := hk.le
  exact ⟨Boxed.kp h0 hk h5, Boxed.kp h1 hk h6, Boxed.kp h2 hk h7, Boxed.kp h3 hk h8, h4.trans hk, by omega, by omega, by omega, by omega⟩
theorem Held4.k {w w' : World} {g0 g1 g2 g3 : Nat} {m0 m1 m2 m3 : ValM} {l0 l1 l2 l3 : Value} (h : Held4 w g0 g1 g2 g3 m0 m1 m2 m3 l0 l1 l2 l3 w') : Kp w w' := h.2.2.2.2.1
theorem own_k {w u : World} {v : Value} {m : ValM} (h : Hid (RdVal w v m)) (hk : Kp w u) : Calls Try.prog 29 #[v] u fun e w' => ∃ v', e = .returned v' ∧ RdVal w' v' m ∧ Kp u w' := own_at v m u (h.out.kp hk)
theorem show_is {w : World} {v : Value} {m : ValM} {s : ByteArray} (h : RdVal w v m) (hl : Hid (m.l.length ≤ 1000000000000)) (hs : Hid (showM m = s)) : Calls Try.prog 34 #[v] w fun e w' => e = .returned (.string s) ∧ Kp w w' := by
  rw [← hs.out]; exact show_any v m w h hl.out
theorem may_is {w : World} {v : Value} {m : ValM} {b : Bool} (h : RdVal w v m) (hb : Hid (mayM m = b)) : Calls Try.prog 38 #[v] w fun e w' => e = .returned (.bool b) ∧ Kp w w' := by
  rw [← hb.out]; exact may_any v m w h
end Go.Proofs.Ytffjfkmnlfndkaa
