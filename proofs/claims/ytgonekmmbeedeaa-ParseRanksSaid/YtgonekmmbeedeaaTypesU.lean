/-
  Package types: Valid; what a slice of texts reads as. Condition: the text lies within the reach.
-/
import Derived.Test.YtgonekmmbeedeaaTypes
import Derived.Test.YtgonekmmbeedeaaStrL
import Derived.Test.YtgonekmmbeedeaaOwnL
import Derived.Test.YtgonekmmbeedeaaRegionP
namespace Go.Proofs.Ytgonekmmbeedeaa.Ty
open Go.RowKit
set_option linter.unusedVariables false

def bsB (l : Bs) : ByteArray := ⟨l.toArray⟩
theorem rest0 (S : ByteArray) : restOf S 0 = S.data.toList := rfl
theorem size_len (S : ByteArray) : S.data.toList.length = S.size := by rw [Array.length_toList]; rfl
theorem one_zero {S : ByteArray} {r : Bs} {f : Nat} (h : oneM f (restOf S 0) = some r) : S.size - r.length = S.size ↔ r = [] := by
  have := rest_one (Nat.zero_le _) h
  have h2 := rest_len (S := S) (a := S.size - r.length) (by omega)
  rw [this.2.2] at h2
  constructor
  · intro h3; exact List.eq_nil_of_length_eq_zero (by omega)
  · rintro rfl; rfl
set_option maxRecDepth 20000 in
set_option maxHeartbeats 1000000 in
theorem valid_any (w : World) (S : ByteArray) (hS : S.size ≤ 140737488351232) : Calls Try.prog 100 #[.string S] w fun e w' => e = .returned (.bool (validB S.data.toList)) ∧ Kp w w' := by
  by_cases hl : S.size ≤ 100
  · have h1 : decide (100 < S.size) = false := decide_eq_false (by omega)
    have h2 : ¬ ((100 : Int) < (S.size : Int)) := by omega
    have hr : RdrAt (w.alloc (.cells #[.string S, .int .i64 0] 144)) w.heap.size S 0 := blk_new _ _
    have HR := hid hr
    clear hr
    cases hz : oneM 101 (restOf S 0) with
    | none =>
      have HV : Hid (validB S.data.toList = false) := hid (by unfold validB; rw [← rest0, hz]; simp)
      have HZ := hid hz
      clear hz
      go_enter Try.func100, Try.ntmps100
      go_wp2_with (go_at_call 105; go_must (refine (((fun_one 101).2 _ w.heap.size S 0 HR.out (Nat.zero_le _) hS (by omega)).mono fun _ _ h => h.no HZ.out).mono ?_); rintro e w1 ⟨rfl, hg1⟩)
      go_ret
      exact ⟨ret_bool HV.out.symm, Below.one ((Kp.refl w).alloc _) hg1 (Nat.le_refl _) (by simp)⟩
    | some r =>
      have HZ := hid hz
      have hoz := one_zero hz
      have hle := (rest_one (Nat.zero_le _) hz).2.1
      by_cases h0 : r = []
      · have HV : Hid (validB S.data.toList = true) := hid (by unfold validB; rw [← rest0, hz, h0, rest0, size_len]; simp [hl])
        have ha : S.size - r.length = S.size := hoz.2 h0
        have HA := hid ha
        clear hz hoz ha h0
        go_enter Try.func100, Try.ntmps100
        go_wp2_with (go_at_call 105; go_must (refine (((fun_one 101).2 _ w.heap.size S 0 HR.out (Nat.zero_le _) hS (by omega)).mono fun _ _ h => h.yes HZ.out).mono ?_); rintro e w1 ⟨rfl, hr1, hg1⟩; rw [HA.out] at hr1; have c1 := hr1.c1)
        go_ret
        exact ⟨ret_bool HV.out.symm, Below.one ((Kp.refl w).alloc _) hg1 (Nat.le_refl _) (by simp)⟩
      · have HV : Hid (validB S.data.toList = false) := hid (by unfold validB; rw [← rest0, hz]; simp [h0])
        obtain ⟨a, ha⟩ : ∃ a, S.size - r.length = a := ⟨_, rfl⟩
        have HA := hid ha
        have hne : ((a : Int) == (S.size : Int)) = false := by rw [beq_eq_false_iff_ne]; intro h; apply h0; apply hoz.1; omega
        have hne2 : (a == S.size) = false := by rw [beq_eq_false_iff_ne]; intro h; apply h0; apply hoz.1; omega
        clear hz hoz ha h0
        go_enter Try.func100, Try.ntmps100
        go_wp2_with (go_at_call 105; go_must (refine (((fun_one 101).2 _ w.heap.size S 0 HR.out (Nat.zero_le _) hS (by omega)).mono fun _ _ h => h.yes HZ.out).mono ?_); rintro e w1 ⟨rfl, hr1, hg1⟩; rw [HA.out] at hr1; have c1 := hr1.c1)
        go_ret
        exact ⟨ret_bool HV.out.symm, Below.one ((Kp.refl w).alloc _) hg1 (Nat.le_refl _) (by simp)⟩
  · have h2 : (100 : Int) < (S.size : Int) := by omega
    have HV : Hid (validB S.data.toList = false) := hid (by unfold validB; rw [size_len]; simp [hl])
    go_enter Try.func100, Try.ntmps100
    go_wp2
    go_ret
    exact ⟨ret_bool HV.out.symm, Kp.refl _⟩
/-- A slice that reads as texts. -/
def RdS (w : World) (v : Value) (l : List ByteArray) : Prop := ∃ A c, v = .slice A l.length c ∧ l.length ≤ c ∧ ∀ i x, l[i]? = some x → ∃ b off, A = some ⟨b, off, none⟩ ∧ b < w.heap.size ∧ w.cell? ⟨b, off + i, none⟩ = some (.string x)
theorem RdS.kp {w w' : World} {v : Value} {l : List ByteArray} (h : RdS w v l) (hk : Kp w w') : RdS w' v l := by
  obtain ⟨A, c, h1, h2, h3⟩ := h
  refine ⟨A, c, h1, h2, fun i x hi => ?_⟩
  obtain ⟨b, off, e, hb, hc⟩ := h3 i x hi
  exact ⟨b, off, e, Nat.lt_of_lt_of_le hb hk.le, cell_kp hk hb hc⟩
end Go.Proofs.Ytgonekmmbeedeaa.Ty
