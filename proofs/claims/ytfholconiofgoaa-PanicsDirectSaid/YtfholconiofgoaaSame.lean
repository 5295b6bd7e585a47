/-
  slices.Equal, value.Same. No condition but the reach of what comes in.
-/
import Derived.Test.YtfholconiofgoaaOwn
namespace Go.Proofs.Ytfholconiofgoaa
open Go.RowKit

/-! ### slices.Equal, Same -/
theorem RdInts.nz {w : World} {A : Option Addr} {n c : Nat} {xs : List Int} (h : RdInts w (.slice A n c) xs) : n = xs.length := by obtain ⟨_, _, _, _, h1, _⟩ := h; cases h1; rfl
theorem eq_at {xs : List Int} {k : Nat} {x : Int} (h : xs.getD k 0 = x) (hk : k < xs.length) : xs[k] = x := by rw [← h]; simp [List.getD, List.getElem?_eq_getElem hk]
theorem eq_no {xs ys : List Int} {k : Nat} {x y : Int} (hx : xs.getD k 0 = x) (hy : ys.getD k 0 = y) (hne : ¬ x = y) : (xs == ys) = false := by
  rw [beq_eq_false_iff_ne]; rintro rfl; exact hne (hx.symm.trans hy)
theorem eq_yes {xs ys : List Int} {k : Nat} (h1 : ¬ k < xs.length) (h2 : xs.length = ys.length) (ht : xs.take k = ys.take k) : (xs == ys) = true := by
  rw [List.take_of_length_le (by omega), List.take_of_length_le (by omega)] at ht
  rw [ht]; simp
set_option maxHeartbeats 1000000 in
theorem equal_any (va vb : Value) (xs ys : List Int) (w : World) (ha : RdInts w va xs) (hb : RdInts w vb ys) : Calls Try.prog 28 #[va, vb] w fun e w' => e = .returned (.bool (xs == ys)) ∧ Kp w w' := by
  obtain ⟨hl1, _, A, c, rfl, hc1, hcell1⟩ := ha
  obtain ⟨hl2, _, B, d, rfl, hc2, hcell2⟩ := hb
  have H1 := hid hcell1; have H2 := hid hcell2
  clear hcell1 hcell2
  by_cases hlen : xs.length = ys.length
  · have hL : ((xs.length : Int) == (ys.length : Int)) = true := by simp [hlen]
    have hL' : ((xs.length : Int) != (ys.length : Int)) = false := by simp [hlen]
    have HL := hid hlen
    clear hlen
    go_enter Try.func28, Try.ntmps28
    go_wp2
    go_loopw [13] (fun i wr => ∃ k n : Nat, k ≤ xs.length ∧ i = .int .i64 k ∧ wr = w.drewN n ∧ xs.take k = ys.take k) (fun i _ => xs.length - (intOf i).toNat)
    case atStart => exact ⟨0, 0, by omega, rfl, rfl, rfl⟩
    case round =>
      obtain ⟨k, n, hk, rfl, rfl, htk⟩ := hrel
      have HT := hid htk
      clear htk
      by_cases hlt : k < xs.length
      · have hlt2 : k < ys.length := by have := HL.out; omega
        obtain ⟨b, off, rfl, _, hcA⟩ := H1.out (by omega)
        have hc1' := hcA k hlt
        obtain ⟨b2, off2, rfl, _, hcB⟩ := H2.out (by omega)
        have hc2' := hcB k hlt2
        obtain ⟨x, hx⟩ : ∃ x, xs.getD k 0 = x := ⟨_, rfl⟩
        obtain ⟨y, hy⟩ : ∃ y, ys.getD k 0 = y := ⟨_, rfl⟩
        rw [hx] at hc1'; rw [hy] at hc2'
        unfold intV at hc1' hc2'
        have HX := hid hx; have HY := hid hy
        have i1 : (k : Int) < (xs.length : Int) := by omega
        have i2 : (k : Int) < (ys.length : Int) := by omega
        clear hx hy hcA hcB
        by_cases hxy : x = y
        · subst hxy
          go_wp2
          go_quiet (fail)
          go_wp2
          go_roundw
          case rel => exact ⟨k + 1, _, by omega, by simp, rfl, by rw [List.take_succ_eq_append_getElem hlt, List.take_succ_eq_append_getElem hlt2, HT.out, eq_at HX.out hlt, eq_at HY.out hlt2]⟩
          case measure => simp [intOf]; omega
        · have hne : (x == y) = false := by simp [hxy]
          have hne' : (x != y) = true := by simp [hxy]
          have HN := hid (eq_no HX.out HY.out hxy)
          clear hxy
          go_wp2
          go_quiet (fail)
          go_wp2
          go_ret
          exact ⟨ret_bool HN.out.symm, Kp.drewN (Kp.drewN (Kp.refl w) _) _⟩
      · have HN := hid (eq_yes hlt (HL.out) HT.out)
        go_wp2
        go_ret
        exact ⟨ret_bool HN.out.symm, Kp.drewN (Kp.refl w) _⟩
  · have hL : ((xs.length : Int) == (ys.length : Int)) = false := by simp; omega
    have hL' : ((xs.length : Int) != (ys.length : Int)) = true := by simp; omega
    have hne : (xs == ys) = false := by simp; intro h; exact hlen (by rw [h])
    have HN := hid hne
    clear hlen hne
    go_enter Try.func28, Try.ntmps28
    go_wp2
    go_ret
    exact ⟨ret_bool HN.out.symm, Kp.refl _⟩
def sameM (a b : ValM) : Bool :=
  if a.k ≠ b.k then false else if a.k = 2 then (a.n != 0) == (b.n != 0) else if a.k = 1 ∨ a.k = 7 ∨ a.k = 8 then a.n == b.n
  else if a.k = 3 ∨ a.k = 5 then a.s.toList == b.s.toList else if a.k = 6 then a.l == b.l else true
set_option maxHeartbeats 1000000 in
theorem same_no (va vb : Value) (a b : ValM) (w : World) (ha : RdVal w va a) (hb : RdVal w vb b) (hk : a.k ≠ b.k) : Calls Try.prog 20 #[va, vb] w fun e w' => e = .returned (.bool (sameM a b)) ∧ Kp w w' := by
  obtain ⟨la, rfl, _, _, _, _, _⟩ := ha
  obtain ⟨lb, rfl, _, _, _, _, _⟩ := hb
  have HV := hid (show sameM a b = false by unfold sameM; rw [if_pos hk])
  have e1 : (a.k == b.k) = false := by simp [hk]
  have e1' : (a.k != b.k) = true := by simp [hk]
  clear hk
  go_enter Try.func20, Try.ntmps20
  go_wp2
  go_ret
  exact ⟨ret_bool HV.out.symm, ((Kp.refl _).alloc _).alloc _⟩
set_option maxHeartbeats 1000000 in
theorem same_k2 (va vb : Value) (a b : ValM) (w : World) (ha : RdVal w va a) (hb : RdVal w vb b) (hk : a.k = b.k) (h : a.k = 2) : Calls Try.prog 20 #[va, vb] w fun e w' => e = .returned (.bool (sameM a b)) ∧ Kp w w' := by
  obtain ⟨la, rfl, _, _, _, _, _⟩ := ha
  obtain ⟨lb, rfl, _, _, _, _, _⟩ := hb
  have HV := hid (show sameM a b = ((a.n != 0) == (b.n != 0)) by unfold sameM; rw [if_neg (fun h => h hk), if_pos h])
  have t1 : (a.k == 1) = false := by simp; omega
  have t2 : (a.k == 2) = true := by simp; omega
  have t3 : (a.k == 3) = false := by simp; omega
  have t5 : (a.k == 5) = false := by simp; omega
  have t6 : (a.k == 6) = false := by simp; omega
  have t7 : (a.k == 7) = false := by simp; omega
  have t8 : (a.k == 8) = false := by simp; omega
  have e1 : (a.k == b.k) = true := by simp [hk]
  have e1' : (a.k != b.k) = false := by simp [hk]
  clear hk h
  go_enter Try.func20, Try.ntmps20
  go_wp2
  go_ret
  exact ⟨ret_bool HV.out.symm, ((Kp.refl _).alloc _).alloc _⟩
set_option maxHeartbeats 1000000 in
theorem same_k1 (va vb : Value) (a b : ValM) (w : World) (ha : RdVal w va a) (hb : RdVal w vb b) (hk : a.k = b.k) (h : a.k = 1) : Calls Try.prog 20 #[va, vb] w fun e w' => e = .returned (.bool (sameM a b)) ∧ Kp w w' := by
  obtain ⟨la, rfl, _, _, _, _, _⟩ := ha
  obtain ⟨lb, rfl, _, _, _, _, _⟩ := hb
  have HV := hid (show sameM a b = (a.n == b.n) by unfold sameM; rw [if_neg (fun h => h hk), if_neg (by omega), if_pos (by omega)])
  have t1 : (a.k == 1) = true := by simp; omega
  have t2 : (a.k == 2) = false := by simp; omega
  have t3 : (a.k == 3) = false := by simp; omega
  have t5 : (a.k == 5) = false := by simp; omega
  have t6 : (a.k == 6) = false := by simp; omega
  have t7 : (a.k == 7) = false := by simp; omega
  have t8 : (a.k == 8) = false := by simp; omega
  have e1 : (a.k == b.k) = true := by simp [hk]
  have e1' : (a.k != b.k) = false := by simp [hk]
  clear hk h
  go_enter Try.func20, Try.ntmps20
  go_wp2
  go_ret
  exact ⟨ret_bool HV.out.symm, ((Kp.refl _).alloc _).alloc _⟩
set_option maxHeartbeats 1000000 in
theorem same_k7 (va vb : Value) (a b : ValM) (w : World) (ha : RdVal w va a) (hb : RdVal w vb b) (hk : a.k = b.k) (h : a.k = 7) : Calls Try.prog 20 #[va, vb] w fun e w' => e = .returned (.bool (sameM a b)) ∧ Kp w w' := by
  obtain ⟨la, rfl, _, _, _, _, _⟩ := ha
  obtain ⟨lb, rfl, _, _, _, _, _⟩ := hb
  have HV := hid (show sameM a b = (a.n == b.n) by unfold sameM; rw [if_neg (fun h => h hk), if_neg (by omega), if_pos (by omega)])
  have t1 : (a.k == 1) = false := by simp; omega
  have t2 : (a.k == 2) = false := by simp; omega
  have t3 : (a.k == 3) = false := by simp; omega
  have t5 : (a.k == 5) = false := by simp; omega
  have t6 : (a.k == 6) = false := by simp; omega
  have t7 : (a.k == 7) = true := by simp; omega
  have t8 : (a.k == 8) = false := by simp; omega
  have e1 : (a.k == b.k) = true := by simp [hk]
  have e1' : (a.k != b.k) = false := by simp [hk]
  clear hk h
  go_enter Try.func20, Try.ntmps20
  go_wp2
  go_ret
  exact ⟨ret_bool HV.out.symm, ((Kp.refl _).alloc _).alloc _⟩
set_option maxHeartbeats 1000000 in
theorem same_k8 (va vb : Value) (a b : ValM) (w : World) (ha : RdVal w va a) (hb : RdVal w vb b) (hk : a.k = b.k) (h : a.k = 8) : Calls Try.prog 20 #[va, vb] w fun e w' => e = .returned (.bool (sameM a b)) ∧ Kp w w' := by
  obtain ⟨la, rfl, _, _, _, _, _⟩ := ha
  obtain ⟨lb, rfl, _, _, _, _, _⟩ := hb
  have HV := hid (show sameM a b = (a.n == b.n) by unfold sameM; rw [if_neg (fun h => h hk), if_neg (by omega), if_pos (by omega)])
  have t1 : (a.k == 1) = false := by simp; omega
  have t2 : (a.k == 2) = false := by simp; omega
  have t3 : (a.k == 3) = false := by simp; omega
  have t5 : (a.k == 5) = false := by simp; omega
  have t6 : (a.k == 6) = false := by simp; omega
  have t7 : (a.k == 7) = false := by simp; omega
  have t8 : (a.k == 8) = true := by simp; omega
  have e1 : (a.k == b.k) = true := by simp [hk]
  have e1' : (a.k != b.k) = false := by simp [hk]
  clear hk h
  go_enter Try.func20, Try.ntmps20
  go_wp2
  go_ret
  exact ⟨ret_bool HV.out.symm, ((Kp.refl _).alloc _).alloc _⟩
set_option maxHeartbeats 1000000 in
theorem same_k3 (va vb : Value) (a b : ValM) (w : World) (ha : RdVal w va a) (hb : RdVal w vb b) (hk : a.k = b.k) (h : a.k = 3) : Calls Try.prog 20 #[va, vb] w fun e w' => e = .returned (.bool (sameM a b)) ∧ Kp w w' := by
  obtain ⟨la, rfl, _, _, _, _, _⟩ := ha
  obtain ⟨lb, rfl, _, _, _, _, _⟩ := hb
  have HV := hid (show sameM a b = (a.s.toList == b.s.toList) by unfold sameM; rw [if_neg (fun h => h hk), if_neg (by omega), if_neg (by omega), if_pos (by omega)])
  have t1 : (a.k == 1) = false := by simp; omega
  have t2 : (a.k == 2) = false := by simp; omega
  have t3 : (a.k == 3) = true := by simp; omega
  have t5 : (a.k == 5) = false := by simp; omega
  have t6 : (a.k == 6) = false := by simp; omega
  have t7 : (a.k == 7) = false := by simp; omega
  have t8 : (a.k == 8) = false := by simp; omega
  have e1 : (a.k == b.k) = true := by simp [hk]
  have e1' : (a.k != b.k) = false := by simp [hk]
  clear hk h
  go_enter Try.func20, Try.ntmps20
  go_wp2
  go_ret
  exact ⟨ret_bool HV.out.symm, ((Kp.refl _).alloc _).alloc _⟩
set_option maxHeartbeats 1000000 in
theorem same_k5 (va vb : Value) (a b : ValM) (w : World) (ha : RdVal w va a) (hb : RdVal w vb b) (hk : a.k = b.k) (h : a.k = 5) : Calls Try.prog 20 #[va, vb] w fun e w' => e = .returned (.bool (sameM a b)) ∧ Kp w w' := by
  obtain ⟨la, rfl, _, _, _, _, _⟩ := ha
  obtain ⟨lb, rfl, _, _, _, _, _⟩ := hb
  have HV := hid (show sameM a b = (a.s.toList == b.s.toList) by unfold sameM; rw [if_neg (fun h => h hk), if_neg (by omega), if_neg (by omega), if_pos (by omega)])
  have t1 : (a.k == 1) = false := by simp; omega
  have t2 : (a.k == 2) = false := by simp; omega
  have t3 : (a.k == 3) = false := by simp; omega
  have t5 : (a.k == 5) = true := by simp; omega
  have t6 : (a.k == 6) = false := by simp; omega
  have t7 : (a.k == 7) = false := by simp; omega
  have t8 : (a.k == 8) = false := by simp; omega
  have e1 : (a.k == b.k) = true := by simp [hk]
  have e1' : (a.k != b.k) = false := by simp [hk]
  clear hk h
  go_enter Try.func20, Try.ntmps20
  go_wp2
  go_ret
  exact ⟨ret_bool HV.out.symm, ((Kp.refl _).alloc _).alloc _⟩
set_option maxHeartbeats 1000000 in
theorem same_k6 (va vb : Value) (a b : ValM) (w : World) (ha : RdVal w va a) (hb : RdVal w vb b) (hk : a.k = b.k) (h : a.k = 6) : Calls Try.prog 20 #[va, vb] w fun e w' => e = .returned (.bool (sameM a b)) ∧ Kp w w' := by
  obtain ⟨la, rfl, hla, _, _, _, _⟩ := ha
  obtain ⟨lb, rfl, hlb, _, _, _, _⟩ := hb
  have HA := hid hla; have HB := hid hlb
  obtain ⟨_, _, A, c, rfl, _, _⟩ := hla
  obtain ⟨_, _, B, d, rfl, _, _⟩ := hlb
  have HV := hid (show sameM a b = (a.l == b.l) by unfold sameM; rw [if_neg (fun h => h hk), if_neg (by omega), if_neg (by omega), if_neg (by omega), if_pos h])
  have t1 : (a.k == 1) = false := by simp; omega
  have t2 : (a.k == 2) = false := by simp; omega
  have t3 : (a.k == 3) = false := by simp; omega
  have t5 : (a.k == 5) = false := by simp; omega
  have t6 : (a.k == 6) = true := by simp; omega
  have t7 : (a.k == 7) = false := by simp; omega
  have t8 : (a.k == 8) = false := by simp; omega
  have e1 : (a.k == b.k) = true := by simp [hk]
  have e1' : (a.k != b.k) = false := by simp [hk]
  clear hk h
  go_enter Try.func20, Try.ntmps20
  go_wp2_with (go_at_call 28; go_must (refine (equal_any _ _ a.l b.l _ (HA.out.kp (((Kp.refl _).alloc _).alloc _)) (HB.out.kp (((Kp.refl _).alloc _).alloc _))).mono ?_); rintro e w1 ⟨rfl, hk1⟩)
  go_ret
  exact ⟨ret_bool HV.out.symm, (((Kp.refl _).alloc _).alloc _).trans hk1⟩
set_option maxHeartbeats 1000000 in
theorem same_else (va vb : Value) (a b : ValM) (w : World) (ha : RdVal w va a) (hb : RdVal w vb b) (hk : a.k = b.k) (h : a.k ≠ 1 ∧ a.k ≠ 2 ∧ a.k ≠ 3 ∧ a.k ≠ 5 ∧ a.k ≠ 6 ∧ a.k ≠ 7 ∧ a.k ≠ 8) : Calls Try.prog 20 #[va, vb] w fun e w' => e = .returned (.bool (sameM a b)) ∧ Kp w w' := by
  obtain ⟨la, rfl, _, _, _, _, _⟩ := ha
  obtain ⟨lb, rfl, _, _, _, _, _⟩ := hb
  obtain ⟨g1, g2, g3, g5, g6, g7, g8⟩ := h
  have HV := hid (show sameM a b = true by unfold sameM; rw [if_neg (fun h => h hk), if_neg g2, if_neg (by omega), if_neg (by omega), if_neg g6])
  have t1 : (a.k == 1) = false := by simp; omega
  have t2 : (a.k == 2) = false := by simp; omega
  have t3 : (a.k == 3) = false := by simp; omega
  have t5 : (a.k == 5) = false := by simp; omega
  have t6 : (a.k == 6) = false := by simp; omega
  have t7 : (a.k == 7) = false := by simp; omega
  have t8 : (a.k == 8) = false := by simp; omega
  have e1 : (a.k == b.k) = true := by simp [hk]
  have e1' : (a.k != b.k) = false := by simp [hk]
  clear hk g1 g2 g3 g5 g6 g7 g8
  go_enter Try.func20, Try.ntmps20
  go_wp2
  go_ret
  exact ⟨ret_bool HV.out.symm, ((Kp.refl _).alloc _).alloc _⟩
theorem same_any (va vb : Value) (a b : ValM) (w : World) (ha : RdVal w va a) (hb : RdVal w vb b) : Calls Try.prog 20 #[va, vb] w fun e w' => e = .returned (.bool (sameM a b)) ∧ Kp w w' := by
  by_cases hk : a.k = b.k
  · by_cases h : a.k = 1 ∨ a.k = 2 ∨ a.k = 3 ∨ a.k = 5 ∨ a.k = 6 ∨ a.k = 7 ∨ a.k = 8
    · rcases h with h | h | h | h | h | h | h
      · exact same_k1 va vb a b w ha hb hk h
      · exact same_k2 va vb a b w ha hb hk h
      · exact same_k3 va vb a b w ha hb hk h
      · exact same_k5 va vb a b w ha hb hk h
      · exact same_k6 va vb a b w ha hb hk h
      · exact same_k7 va vb a b w ha hb hk h
      · exact same_k8 va vb a b w ha hb hk h
    · exact same_else va vb a b w ha hb hk (by omega)
  · exact same_no va vb a b w ha hb hk
end Go.Proofs.Ytfholconiofgoaa
