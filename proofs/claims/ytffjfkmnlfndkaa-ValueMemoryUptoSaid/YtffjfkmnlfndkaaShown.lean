/-
  shown (the laws' own check), and the plain law of Same. No condition.
-/
import Derived.Test.YtffjfkmnlfndkaaShow
import Derived.Test.YtffjfkmnlfndkaaHeld
namespace Go.Proofs.Ytffjfkmnlfndkaa
open Go.RowKit

theorem RdInts.lit {w : World} (cs : Array Value) (xs : List Int) (T : TypeId) (h : cs.toList = xs.map intV) (hl : xs.length * 8 ≤ 140737488355328) (hr : ∀ x ∈ xs, okI x) (n : Nat) (hn : n = xs.length) : RdInts (w.alloc (.cells cs T)) (.slice (some ⟨w.heap.size, 0, none⟩) n n) xs := by
  subst hn
  refine ⟨hl, hr, _, _, rfl, Nat.le_refl _, fun hp => ⟨w.heap.size, 0, rfl, by simp, fun j hj => ?_⟩⟩
  rw [World.cell?_alloc_new, Nat.zero_add, ← Array.getElem?_toList, h]
  simp [List.getD, List.getElem?_eq_getElem hj]
set_option maxRecDepth 20000 in
set_option maxHeartbeats 1000000 in
theorem shown_any (w : World) : Calls Try.prog 31 #[] w fun e w' => e = .returned (.bool true) ∧ Kp w w' := by
  have hs : showM ⟨6, 0, ⟨#[]⟩, [1, 2]⟩ = ⟨#[91, 49, 32, 50, 93]⟩ := by decide +kernel
  have h2 : sameM ⟨0, 0, ⟨#[]⟩, []⟩ ⟨0, 0, ⟨#[]⟩, []⟩ = true := by decide +kernel
  have h3 : mayM ⟨1, 0, ⟨#[]⟩, []⟩ = true := by decide +kernel
  have hl : RdInts (w.alloc (.cells #[.int .i64 1, .int .i64 2] 3)) (.slice (some ⟨w.heap.size, 0, none⟩) 2 2) [1, 2] := RdInts.lit _ _ _ rfl (by decide) (by intro x hx; simp at hx; unfold okI; omega) 2 rfl
  have HS := hid hs; have H2 := hid h2; have H3 := hid h3
  clear hs h2 h3
  go_enter Try.func31, Try.ntmps31
  go_wp2_with (first
    | (go_at_call 34; go_must (refine (show_any _ ⟨6, 0, ⟨#[]⟩, [1, 2]⟩ _ ⟨_, rfl, hl, by unfold okI; decide, by unfold okI; decide, by decide, by decide⟩ (by decide)).mono ?_); rintro e w1 ⟨rfl, hk1⟩; rw [HS.out])
    | (go_at_call 30; go_must (refine (same_any _ _ ⟨0, 0, ⟨#[]⟩, []⟩ ⟨0, 0, ⟨#[]⟩, []⟩ _ ⟨_, rfl, RdInts.nil_ _, by unfold okI; decide, by unfold okI; decide, by decide, by decide⟩ ⟨_, rfl, RdInts.nil_ _, by unfold okI; decide, by unfold okI; decide, by decide, by decide⟩).mono ?_); rintro e w2 ⟨rfl, hk2⟩; rw [H2.out])
    | (go_at_call 38; go_must (refine (may_any _ ⟨1, 0, ⟨#[]⟩, []⟩ _ ⟨_, rfl, RdInts.nil_ _, by unfold okI; decide, by unfold okI; decide, by decide, by decide⟩).mono ?_); rintro e w3 ⟨rfl, hk3⟩; rw [H3.out]))
  go_ret
  exact ⟨rfl, ((((Kp.refl _).alloc _).trans hk1).trans hk2).trans hk3⟩
theorem same_refl (a : ValM) : sameM a a = true := by unfold sameM; simp
theorem same_symm (a b : ValM) : sameM b a = sameM a b := by
  unfold sameM
  by_cases h : a.k = b.k
  · have h' := h.symm
    rw [if_neg (show ¬ b.k ≠ a.k from fun e => e h'), if_neg (show ¬ a.k ≠ b.k from fun e => e h), ← h]
    rw [show ((b.n != 0) == (a.n != 0)) = ((a.n != 0) == (b.n != 0)) from BEq.comm, show (b.n == a.n) = (a.n == b.n) from BEq.comm, show (b.s.toList == a.s.toList) = (a.s.toList == b.s.toList) from BEq.comm, show (b.l == a.l) = (a.l == b.l) from BEq.comm]
  · rw [if_pos h, if_pos (fun e => h e.symm)]
theorem same_trans {a b c : ValM} (h1 : sameM a b = true) (h2 : sameM b c = true) : sameM a c = true := by
  unfold sameM at *
  by_cases h : a.k = b.k
  · by_cases h' : b.k = c.k
    · rw [if_neg (fun e => e h)] at h1
      rw [if_neg (fun e => e h'), ← h] at h2
      rw [if_neg (fun e => e (h.trans h'))]
      by_cases k2 : a.k = 2
      · rw [if_pos k2] at *; simp only [beq_iff_eq] at *; rw [h1, h2]
      · rw [if_neg k2] at *
        by_cases k1 : a.k = 1 ∨ a.k = 7 ∨ a.k = 8
        · rw [if_pos k1] at *; simp only [beq_iff_eq] at *; rw [h1, h2]
        · rw [if_neg k1] at *
          by_cases k3 : a.k = 3 ∨ a.k = 5
          · rw [if_pos k3] at *; simp only [beq_iff_eq] at *; rw [h1, h2]
          · rw [if_neg k3] at *
            by_cases k6 : a.k = 6
            · rw [if_pos k6] at *; simp only [beq_iff_eq] at *; rw [h1, h2]
            · rw [if_neg k6]
    · rw [if_pos h'] at h2; cases h2
  · rw [if_pos h] at h1; cases h1
theorem same_is {w1 w2 : World} {v1 v2 : Value} {m1 m2 : ValM} {b : Bool} (h1 : RdVal w1 v1 m1) (hk : Kp w1 w2) (h2 : RdVal w2 v2 m2) (hb : Hid (sameM m1 m2 = b)) : Calls Try.prog 30 #[v1, v2] w2 fun e w' => e = .returned (.bool b) ∧ Kp w2 w' := by
  rw [← hb.out]; exact same_any v1 v2 m1 m2 w2 (h1.kp hk) h2
end Go.Proofs.Ytffjfkmnlfndkaa
