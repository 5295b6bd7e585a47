/-
  Values in boxes, and calls beside the loads of them. No condition.
-/
import Derived.Test.YtffjfkmnlfndkaaValue
import Derived.Deep.RegionHeld3
namespace Go.Proofs.Ytffjfkmnlfndkaa
open Go.RowKit

theorem own_at (v : Value) (m : ValM) (w : World) (h : RdVal w v m) : Calls Try.prog 29 #[v] w fun e w' => ∃ v', e = .returned v' ∧ RdVal w' v' m ∧ Kp w w' :=
  (own_any v m w h).mono fun _ _ ⟨⟨v', h1, h2⟩, h3⟩ => ⟨v', h1, h2.rd, h3⟩
/-- A Value in a box. -/
abbrev Boxed (w : World) (b : Nat) (m : ValM) (l : Value) : Prop := w.cell? ⟨b, 0, none⟩ = some (.int .i64 m.k) ∧ w.cell? ⟨b, 1, none⟩ = some (.int .i64 m.n) ∧ w.cell? ⟨b, 2, none⟩ = some (.string m.s) ∧ w.cell? ⟨b, 3, none⟩ = some l
theorem Boxed.kp {w w' : World} {b : Nat} {m : ValM} {l : Value} (h : Boxed w b m l) (hk : Kp w w') (hb : b < w.heap.size) : Boxed w' b m l := by
  unfold Boxed; rw [hk.cells.1 _ _ hb, hk.cells.1 _ _ hb, hk.cells.1 _ _ hb, hk.cells.1 _ _ hb]; exact h
abbrev Held3 (w : World) (a0 a1 a2 : ValM) (l0 l1 l2 : Value) (w' : World) : Prop :=
  Boxed w' w.heap.size a0 l0 ∧ Boxed w' (w.heap.size + 1) a1 l1 ∧ Boxed w' (w.heap.size + 1 + 1) a2 l2 ∧ Kp w w' ∧ w.heap.size + 1 + 1 < w'.heap.size
theorem Held3.kp {w w' w2 : World} {a0 a1 a2 : ValM} {l0 l1 l2 : Value} (h : Held3 w a0 a1 a2 l0 l1 l2 w') (hk : Kp w' w2) : Held3 w a0 a1 a2 l0 l1 l2 w2 := by
  obtain ⟨h0, h1, h2, h3, h4⟩ := h
  exact ⟨Boxed.kp h0 hk (by omega), Boxed.kp h1 hk (by omega), Boxed.kp h2 hk (by omega), h3.trans hk, by have := hk.le; omega⟩
theorem Held3.mk (w : World) (a0 a1 a2 : ValM) (l0 l1 l2 : Value) : Held3 w a0 a1 a2 l0 l1 l2 (((w.alloc (.cells #[.int .i64 a0.k, .int .i64 a0.n, .string a0.s, l0] 53)).alloc (.cells #[.int .i64 a1.k, .int .i64 a1.n, .string a1.s, l1] 53)).alloc (.cells #[.int .i64 a2.k, .int .i64 a2.n, .string a2.s, l2] 53)) := by
  refine ⟨?_, ?_, ?_, (((Kp.refl _).alloc _).alloc _).alloc _, by simp⟩ <;> simp [Boxed, go_sem, World.cell?_alloc_past]
theorem own_h {w w' : World} {a0 a1 a2 : ValM} {l0 l1 l2 v : Value} {m : ValM} (H : Held3 w a0 a1 a2 l0 l1 l2 w') (h : Hid (RdVal w v m)) : Calls Try.prog 29 #[v] w' fun e w2 => ∃ v', e = .returned v' ∧ RdVal w2 v' m ∧ Kp w' w2 :=
  own_at v m w' (h.out.kp H.2.2.2.1)
theorem order_h {w1 w2 : World} {v1 v2 : Value} {m1 m2 : ValM} (h1 : RdVal w1 v1 m1) (hk : Kp w1 w2) (h2 : RdVal w2 v2 m2) : Calls Try.prog 28 #[v1, v2] w2 fun e w' => e = .returned (.tuple #[.int .i64 (ordM m1 m2), .int .i64 (ordEM m1 m2)]) ∧ Kp w2 w' :=
  order_any v1 v2 m1 m2 w2 (h1.kp hk) h2
theorem same_h {w1 w2 : World} {v1 v2 : Value} {m1 m2 : ValM} (h1 : RdVal w1 v1 m1) (hk : Kp w1 w2) (h2 : RdVal w2 v2 m2) : Calls Try.prog 30 #[v1, v2] w2 fun e w' => e = .returned (.bool (sameM m1 m2)) ∧ Kp w2 w' :=
  same_any v1 v2 m1 m2 w2 (h1.kp hk) h2

/-! ### the plain laws of ordM and sameM -/
theorem cb_range : ∀ a b : List UInt8, -1 ≤ Lib.compareBytes a b ∧ Lib.compareBytes a b ≤ 1
  | [], [] => by simp [Lib.compareBytes]
  | [], _ :: _ => by simp [Lib.compareBytes]
  | _ :: _, [] => by simp [Lib.compareBytes]
  | a :: xs, b :: ys => by
    have := cb_range xs ys
    unfold Lib.compareBytes
    split
    · omega
    · split
      · omega
      · exact this
theorem cb_anti : ∀ a b : List UInt8, Lib.compareBytes a b = - Lib.compareBytes b a
  | [], [] => by simp [Lib.compareBytes]
  | [], _ :: _ => by simp [Lib.compareBytes]
  | _ :: _, [] => by simp [Lib.compareBytes]
  | a :: xs, b :: ys => by
    have h := cb_anti xs ys
    unfold Lib.compareBytes
    by_cases h1 : a < b
    · have h2 : ¬ b < a := by rw [UInt8.lt_iff_toNat_lt] at h1 ⊢; omega
      rw [if_pos h1, if_neg h2, if_pos h1]
    · by_cases h2 : b < a
      · rw [if_neg h1, if_pos h2, if_pos h2]; rfl
      · rw [if_neg h1, if_neg h2, if_neg h2, if_neg h1, h]
theorem cb_zero : ∀ a b : List UInt8, Lib.compareBytes a b = 0 ↔ a = b
  | [], [] => by simp [Lib.compareBytes]
  | [], _ :: _ => by simp [Lib.compareBytes]
  | _ :: _, [] => by simp [Lib.compareBytes]
  | a :: xs, b :: ys => by
    have h := cb_zero xs ys
    unfold Lib.compareBytes
    by_cases h1 : a < b
    · rw [if_pos h1]
      have h3 : a ≠ b := by intro e; rw [e, UInt8.lt_iff_toNat_lt] at h1; omega
      simp [h3]
    · by_cases h2 : b < a
      · rw [if_neg h1, if_pos h2]
        have h3 : a ≠ b := by intro e; rw [e, UInt8.lt_iff_toNat_lt] at h2; omega
        simp [h3]
      · rw [if_neg h1, if_neg h2, h]
        have h3 : a = b := by rw [UInt8.lt_iff_toNat_lt] at h1 h2; exact UInt8.toNat_inj.1 (by omega)
        simp [h3]
theorem cb_trans : ∀ a b c : List UInt8, Lib.compareBytes a b ≤ 0 → Lib.compareBytes b c ≤ 0 → Lib.compareBytes a c ≤ 0
  | [], _, [] => by simp [Lib.compareBytes]
  | [], _, _ :: _ => by simp [Lib.compareBytes]
  | _ :: _, [], _ => by simp [Lib.compareBytes]
  | _ :: _, _ :: _, [] => by simp [Lib.compareBytes]
  | a :: xs, b :: ys, c :: zs => by
    have h := cb_trans xs ys zs
    unfold Lib.compareBytes
    simp only [UInt8.lt_iff_toNat_lt]
    intro h1 h2
    split at h1
    · split at h2
      · rw [if_pos (by omega)]; omega
      · split at h2
        · omega
        · rw [if_pos (by omega)]; omega
    · split at h1
      · omega
      · split at h2
        · rw [if_pos (by omega)]; omega
        · split at h2
          · omega
          · rw [if_neg (by omega), if_neg (by omega)]; exact h h1 h2
theorem ord_range (a b : ValM) : -1 ≤ ordM a b ∧ ordM a b ≤ 1 := by
  unfold ordM
  split
  · omega
  · split
    · exact cb_range _ _
    · split
      · omega
      · split
        · omega
        · split <;> omega
theorem ord_3 {a b : ValM} (h : a.k = b.k) (h1 : a.k = 3) : ordM a b = Lib.compareBytes a.s.data.toList b.s.data.toList := by unfold ordM; rw [if_neg (fun e => e h), if_pos h1]
theorem ord_1 {a b : ValM} (h : a.k = b.k) (h1 : a.k = 1) : ordM a b = if a.n < b.n then -1 else if b.n < a.n then 1 else 0 := by unfold ordM; rw [if_neg (fun e => e h), if_neg (by omega), if_neg (by omega)]
theorem ord_0 {a b : ValM} (h1 : a.k ≠ 3) (h2 : a.k ≠ 1) : ordM a b = 0 := by unfold ordM; rw [if_neg h1, if_pos h2]; split <;> rfl
theorem ord_anti (a b : ValM) : ordM a b = - ordM b a := by
  by_cases h : a.k = b.k
  · by_cases h3 : a.k = 3
    · rw [ord_3 h h3, ord_3 h.symm (by omega)]; exact cb_anti _ _
    · by_cases h1 : a.k = 1
      · rw [ord_1 h h1, ord_1 h.symm (by omega)]
        by_cases h5 : a.n < b.n
        · rw [if_pos h5, if_neg (by omega), if_pos h5]
        · rw [if_neg h5]
          by_cases h6 : b.n < a.n
          · rw [if_pos h6, if_pos h6]; rfl
          · rw [if_neg h6, if_neg h6, if_neg h5]; rfl
      · rw [ord_0 h3 h1, ord_0 (by omega) (by omega)]; rfl
  · unfold ordM; rw [if_pos h, if_pos (fun e => h e.symm)]; rfl
theorem ord_e (a b : ValM) : ordEM a b = ordEM b a := by
  unfold ordEM
  by_cases h : a.k = b.k
  · rw [if_neg (fun e => e h)]
    rw [if_neg (show ¬ b.k ≠ a.k from fun e => e h.symm), h]
  · rw [if_pos h, if_pos (fun e => h e.symm)]
theorem ord_ok {a b : ValM} (h : ordEM a b = 0) : a.k = b.k ∧ (a.k = 3 ∨ a.k = 1) := by
  unfold ordEM at h
  split at h
  · omega
  · rename_i h1
    have h1 : a.k = b.k := by omega
    refine ⟨h1, ?_⟩
    split at h
    · left; assumption
    · split at h
      · omega
      · right; omega
theorem ord_back {a b : ValM} (h : a.k = b.k) (h1 : a.k = 3 ∨ a.k = 1) : ordEM a b = 0 := by
  unfold ordEM
  rw [if_neg (by simp [h])]
  rcases h1 with h1 | h1
  · rw [if_pos h1]
  · rw [if_neg (by omega), if_neg (by omega)]
theorem ord_same {a b : ValM} (h : ordEM a b = 0) : (ordM a b == 0) = sameM a b := by
  obtain ⟨h1, h2⟩ := ord_ok h
  rcases h2 with h2 | h2
  · rw [ord_3 h1 h2, sameM, if_neg (fun e => e h1), if_neg (by omega), if_neg (by omega), if_pos (by omega), Bool.eq_iff_iff, ByteArray.toList_eq, ByteArray.toList_eq]
    simp only [beq_iff_eq, cb_zero]
  · rw [ord_1 h1 h2, show sameM a b = (a.n == b.n) by unfold sameM; rw [if_neg (fun e => e h1), if_neg (by omega), if_pos (by omega)], Bool.eq_iff_iff, beq_iff_eq, beq_iff_eq]
    by_cases h5 : a.n < b.n
    · rw [if_pos h5]; omega
    · rw [if_neg h5]
      by_cases h6 : b.n < a.n
      · rw [if_pos h6]; omega
      · rw [if_neg h6]; omega
theorem tri_trans (a b c : Int) (h3 : (if a < b then -1 else if b < a then (1 : Int) else 0) ≤ 0) (h4 : (if b < c then -1 else if c < b then (1 : Int) else 0) ≤ 0) :
    (if a < c then -1 else if c < a then (1 : Int) else 0) ≤ 0 ∧ ((if a < c then -1 else if c < a then (1 : Int) else 0) = 0 ↔ (if a < b then -1 else if b < a then (1 : Int) else 0) = 0 ∧ (if b < c then -1 else if c < b then (1 : Int) else 0) = 0) := by
  have t : ∀ x y : Int, (if x < y then -1 else if y < x then (1 : Int) else 0) ≤ 0 ↔ x ≤ y := by intro x y; split <;> (try split) <;> omega
  have z : ∀ x y : Int, (if x < y then -1 else if y < x then (1 : Int) else 0) = 0 ↔ x = y := by intro x y; split <;> (try split) <;> omega
  rw [t] at h3 h4
  rw [t, z, z, z]
  omega
theorem ord_trans {a b c : ValM} (h1 : ordEM a b = 0) (h2 : ordEM b c = 0) (h3 : ordM a b ≤ 0) (h4 : ordM b c ≤ 0) : ordEM a c = 0 ∧ ordM a c ≤ 0 ∧ (ordM a c = 0 ↔ ordM a b = 0 ∧ ordM b c = 0) := by
  obtain ⟨e1, e2⟩ := ord_ok h1
  obtain ⟨e3, e4⟩ := ord_ok h2
  refine ⟨ord_back (by omega) e2, ?_⟩
  rcases e2 with e2 | e2
  · rw [ord_3 e1 e2] at h3 ⊢
    rw [ord_3 e3 (by omega)] at h4 ⊢
    rw [ord_3 (by omega) e2]
    refine ⟨cb_trans _ _ _ h3 h4, ?_⟩
    rw [cb_zero, cb_zero, cb_zero]
    constructor
    · intro h
      rw [← h, cb_anti] at h4
      have : Lib.compareBytes a.s.data.toList b.s.data.toList = 0 := by omega
      rw [cb_zero] at this
      exact ⟨this, by rw [← this, h]⟩
    · rintro ⟨h, h'⟩; rw [h, h']
  · rw [ord_1 e1 e2] at h3 ⊢
    rw [ord_1 e3 (by omega)] at h4 ⊢
    rw [ord_1 (by omega) e2]
    exact tri_trans _ _ _ h3 h4
end Go.Proofs.Ytffjfkmnlfndkaa
