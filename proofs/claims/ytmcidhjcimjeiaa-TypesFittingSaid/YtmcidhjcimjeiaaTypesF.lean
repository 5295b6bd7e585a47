/-
  Package types: nilly, Fits, Compares, Zero. Condition: the texts lie within the reach.
-/
import Derived.Test.YtmcidhjcimjeiaaTypesV
namespace Go.Proofs.Ytmcidhjcimjeiaa
open Go.RowKit
set_option linter.unusedVariables false

def bNil : Bs := [110, 105, 108]
def nillyB (l : Bs) : Bool := validB l && (l == bAny || (l == bPtr || (l == bInts || l.headD 0 == 102)))
def fitsB (a b : Bs) : Bool := if a == bNil then nillyB b else if b == bAny && (a == bInt || a == bString) then true else a == b && validB b
def comparesB (a b : Bs) : Bool := if b == bNil then nillyB a else if a == bNil then nillyB b else a == b && (a == bInt || (a == bBool || a == bString))
def zeroK (l : Bs) : Int := if l == bInt then 1 else if l == bBool then 2 else if l == bString then 3 else 4
theorem valid_ne {l : Bs} (h : validB l = true) : 0 < l.length := by
  obtain ⟨c, t, rfl, _⟩ := valid_head h; simp
set_option maxRecDepth 20000 in
set_option maxHeartbeats 1000000 in
theorem nilly_any (w : World) (S : ByteArray) (hS : S.size ≤ 140737488351232) : Calls Try.prog 49 #[.string S] w fun e w' => e = .returned (.bool (nillyB S.toList)) ∧ Kp w w' := by
  have etl : S.toList = S.data.toList := ByteArray.toList_eq S
  have ETL := hid etl
  cases hv : validB S.data.toList with
  | false =>
    have HV := hid hv
    have HN : Hid (nillyB S.toList = false) := hid (by unfold nillyB; rw [etl, hv]; rfl)
    clear hv etl
    go_enter Try.func49, Try.ntmps49
    go_wp2_with (go_at_call 36; go_must (refine (valid_any _ S hS).mono ?_); rintro e w1 ⟨rfl, hk⟩; rw [HV.out])
    go_ret
    exact ⟨ret_bool HN.out.symm, hk⟩
  | true =>
    have HV := hid hv
    have h0 := valid_ne hv
    rw [size_len] at h0
    have hn : nillyB S.toList = (S.toList == [97, 110, 121] || (S.toList == [42, 105, 110, 116] || (S.toList == [91, 93, 105, 110, 116] || (((S[0]'h0).toNat : Int) == 102)))) := by
      unfold nillyB
      have hb : (((S[0]'h0).toNat : Int) == 102) = (S[0]'h0 == 102) := byte_beq _ 102 (by decide)
      rw [hb]
      have : S.toList.headD 0 = S[0]'h0 := by
        rw [etl, ← rest0, rest_cons h0]; rfl
      rw [this, etl, hv]; rfl
    obtain ⟨b1, e1⟩ : ∃ b, (S.toList == [97, 110, 121]) = b := ⟨_, rfl⟩
    obtain ⟨b2, e2⟩ : ∃ b, (S.toList == [42, 105, 110, 116]) = b := ⟨_, rfl⟩
    obtain ⟨b3, e3⟩ : ∃ b, (S.toList == [91, 93, 105, 110, 116]) = b := ⟨_, rfl⟩
    obtain ⟨b4, e4⟩ : ∃ b, (((S[0]'h0).toNat : Int) == 102) = b := ⟨_, rfl⟩
    rw [e1, e2, e3, e4] at hn
    have HN := hid hn
    clear hv etl hn
    cases b1 <;> cases b2 <;> cases b3 <;> cases b4
    all_goals
      go_enter Try.func49, Try.ntmps49
      go_wp2_with (go_at_call 36; go_must (refine (valid_any _ S hS).mono ?_); rintro e w1 ⟨rfl, hk⟩; rw [HV.out])
      go_ret
      exact ⟨ret_bool HN.out.symm, hk⟩
theorem tl_eq (S : ByteArray) : S.toList = S.data.toList := ByteArray.toList_eq S
set_option maxRecDepth 20000 in
set_option maxHeartbeats 2000000 in
theorem fits_any (w : World) (S T : ByteArray) (hS : S.size ≤ 140737488351232) (hT : T.size ≤ 140737488351232) : Calls Try.prog 37 #[.string S, .string T] w fun e w' => e = .returned (.bool (fitsB S.toList T.toList)) ∧ Kp w w' := by
  have hv := valid_any
  have hni := nilly_any
  have HVA := hid hv; have HNI := hid hni
  clear hv hni
  obtain ⟨v, hv⟩ : ∃ v, validB T.data.toList = v := ⟨_, rfl⟩
  have HV := hid hv
  obtain ⟨n, hn⟩ : ∃ n, nillyB T.toList = n := ⟨_, rfl⟩
  have HNB := hid hn
  have hf : fitsB S.toList T.toList = if (S.toList == [110, 105, 108]) = true then n else if ((T.toList == [97, 110, 121]) && ((S.toList == [105, 110, 116]) || (S.toList == [115, 116, 114, 105, 110, 103]))) = true then true else (S.toList == T.toList) && v := by
    unfold fitsB; rw [hn, ← hv, tl_eq T]; rfl
  obtain ⟨b1, e1⟩ : ∃ b, (S.toList == [110, 105, 108]) = b := ⟨_, rfl⟩
  obtain ⟨b2, e2⟩ : ∃ b, (T.toList == [97, 110, 121]) = b := ⟨_, rfl⟩
  obtain ⟨b3, e3⟩ : ∃ b, (S.toList == [105, 110, 116]) = b := ⟨_, rfl⟩
  obtain ⟨b4, e4⟩ : ∃ b, (S.toList == [115, 116, 114, 105, 110, 103]) = b := ⟨_, rfl⟩
  obtain ⟨b5, e5⟩ : ∃ b, (S.toList == T.toList) = b := ⟨_, rfl⟩
  rw [e1, e2, e3, e4, e5] at hf
  have HF := hid hf
  clear hf hv hn
  cases b1 with
  | true =>
    clear e2 e3 e4 e5
    go_enter Try.func37, Try.ntmps37
    go_wp2_with (go_at_call 49; go_must (refine (HNI.out _ T hT).mono ?_); rintro e w1 ⟨rfl, hk⟩; rw [HNB.out])
    go_ret
    exact ⟨ret_bool HF.out.symm, hk⟩
  | false =>
    cases b2 <;> cases b3 <;> cases b4 <;> cases b5
    all_goals
      go_enter Try.func37, Try.ntmps37
      go_wp2_with (go_at_call 36; go_must (refine (HVA.out _ T hT).mono ?_); rintro e w1 ⟨rfl, hk⟩; rw [HV.out])
      go_ret
      first
        | exact ⟨ret_bool HF.out.symm, hk⟩
        | exact ⟨ret_bool HF.out.symm, Kp.refl _⟩
set_option maxRecDepth 20000 in
set_option maxHeartbeats 2000000 in
theorem compares_any (w : World) (S T : ByteArray) (hS : S.size ≤ 140737488351232) (hT : T.size ≤ 140737488351232) : Calls Try.prog 39 #[.string S, .string T] w fun e w' => e = .returned (.bool (comparesB S.toList T.toList)) ∧ Kp w w' := by
  have hni := nilly_any
  have HNI := hid hni
  clear hni
  obtain ⟨n, hn⟩ : ∃ n, nillyB T.toList = n := ⟨_, rfl⟩
  have HNB := hid hn
  obtain ⟨m, hm⟩ : ∃ m, nillyB S.toList = m := ⟨_, rfl⟩
  have HMB := hid hm
  have hf : comparesB S.toList T.toList = if (T.toList == [110, 105, 108]) = true then m else if (S.toList == [110, 105, 108]) = true then n else (S.toList == T.toList) && ((S.toList == [105, 110, 116]) || ((S.toList == [98, 111, 111, 108]) || (S.toList == [115, 116, 114, 105, 110, 103]))) := by
    unfold comparesB; rw [hn, hm]; rfl
  obtain ⟨b1, e1⟩ : ∃ b, (T.toList == [110, 105, 108]) = b := ⟨_, rfl⟩
  obtain ⟨b2, e2⟩ : ∃ b, (S.toList == [110, 105, 108]) = b := ⟨_, rfl⟩
  obtain ⟨b3, e3⟩ : ∃ b, (S.toList == [105, 110, 116]) = b := ⟨_, rfl⟩
  obtain ⟨b4, e4⟩ : ∃ b, (S.toList == [115, 116, 114, 105, 110, 103]) = b := ⟨_, rfl⟩
  obtain ⟨b5, e5⟩ : ∃ b, (S.toList == T.toList) = b := ⟨_, rfl⟩
  obtain ⟨b6, e6⟩ : ∃ b, (S.toList == [98, 111, 111, 108]) = b := ⟨_, rfl⟩
  rw [e1, e2, e3, e4, e5, e6] at hf
  have HF := hid hf
  clear hf hn hm
  cases b1 with
  | true =>
    clear e2 e3 e4 e5 e6
    go_enter Try.func39, Try.ntmps39
    go_wp2_with (go_at_call 49; go_must (refine (HNI.out _ S hS).mono ?_); rintro e w1 ⟨rfl, hk⟩; rw [HMB.out])
    go_ret
    exact ⟨ret_bool HF.out.symm, hk⟩
  | false =>
    cases b2 with
    | true =>
      clear e3 e4 e5 e6
      go_enter Try.func39, Try.ntmps39
      go_wp2_with (go_at_call 49; go_must (refine (HNI.out _ T hT).mono ?_); rintro e w1 ⟨rfl, hk⟩; rw [HNB.out])
      go_ret
      exact ⟨ret_bool HF.out.symm, hk⟩
    | false =>
      cases b3 <;> cases b4 <;> cases b5 <;> cases b6
      all_goals
        go_enter Try.func39, Try.ntmps39
        go_wp2
        go_ret
        exact ⟨ret_bool HF.out.symm, Kp.refl _⟩
def zeroE (l : Bs) : Ending := .returned (.tuple #[.agg #[.int .i64 (if validB l then zeroK l else 0), .int .i64 0, .string ⟨#[]⟩, .slice none 0 0], .int .i64 (if validB l then 0 else 9)])
set_option maxRecDepth 20000 in
set_option maxHeartbeats 2000000 in
theorem zero_any (w : World) (S : ByteArray) (hS : S.size ≤ 140737488351232) : Calls Try.prog 38 #[.string S] w fun e w' => e = zeroE S.toList ∧ Kp w w' := by
  have hv := valid_any
  have HVA := hid hv
  clear hv
  obtain ⟨v, hv⟩ : ∃ v, validB S.data.toList = v := ⟨_, rfl⟩
  have HV := hid hv
  have hz : zeroE S.toList = .returned (.tuple #[.agg #[.int .i64 (if v then (if (S.toList == [105, 110, 116]) then 1 else if (S.toList == [98, 111, 111, 108]) then 2 else if (S.toList == [115, 116, 114, 105, 110, 103]) then 3 else 4) else 0), .int .i64 0, .string ⟨#[]⟩, .slice none 0 0], .int .i64 (if v then 0 else 9)]) := by
    rw [← hv, ← tl_eq]; rfl
  obtain ⟨b3, e3⟩ : ∃ b, (S.toList == [105, 110, 116]) = b := ⟨_, rfl⟩
  obtain ⟨b4, e4⟩ : ∃ b, (S.toList == [98, 111, 111, 108]) = b := ⟨_, rfl⟩
  obtain ⟨b5, e5⟩ : ∃ b, (S.toList == [115, 116, 114, 105, 110, 103]) = b := ⟨_, rfl⟩
  rw [e3, e4, e5] at hz
  have HZ := hid hz
  clear hz hv
  cases v with
  | false =>
    clear e3 e4 e5
    go_enter Try.func38, Try.ntmps38
    go_wp2_with (go_at_call 36; go_must (refine (HVA.out _ S hS).mono ?_); rintro e w1 ⟨rfl, hk⟩; rw [HV.out]; obtain ⟨hc1, hf1, hz1⟩ := kp_at hk (w.heap.size + 1) (by simp))
    exact bodyPost_ret (v := .tuple #[.agg #[.int .i64 0, .int .i64 0, .string ⟨#[]⟩, .slice none 0 0], .int .i64 9]) (by simp [results, Try.results38, go_sem, hc1]) rfl ⟨HZ.out.symm, (((((Kp.refl w).alloc _).trans hk).setCell (by simp) _).setCell (by simp) _ |>.setCell (by simp) _).setCell (by simp) _⟩
  | true =>
    cases b3 <;> cases b4 <;> cases b5
    all_goals
      go_enter Try.func38, Try.ntmps38
      go_wp2_with (go_at_call 36; go_must (refine (HVA.out _ S hS).mono ?_); rintro e w1 ⟨rfl, hk⟩; rw [HV.out]; obtain ⟨hc1, hf1, hz1⟩ := kp_at hk (w.heap.size + 1) (by simp))
      first
        | exact bodyPost_ret (v := .tuple #[.agg #[.int .i64 1, .int .i64 0, .string ⟨#[]⟩, .slice none 0 0], .int .i64 0]) (by simp [results, Try.results38, go_sem, hc1]) rfl ⟨HZ.out.symm, (((((Kp.refl w).alloc _).trans hk).setCell (by simp) _).setCell (by simp) _ |>.setCell (by simp) _).setCell (by simp) _⟩
        | exact bodyPost_ret (v := .tuple #[.agg #[.int .i64 2, .int .i64 0, .string ⟨#[]⟩, .slice none 0 0], .int .i64 0]) (by simp [results, Try.results38, go_sem, hc1]) rfl ⟨HZ.out.symm, (((((Kp.refl w).alloc _).trans hk).setCell (by simp) _).setCell (by simp) _ |>.setCell (by simp) _).setCell (by simp) _⟩
        | exact bodyPost_ret (v := .tuple #[.agg #[.int .i64 3, .int .i64 0, .string ⟨#[]⟩, .slice none 0 0], .int .i64 0]) (by simp [results, Try.results38, go_sem, hc1]) rfl ⟨HZ.out.symm, (((((Kp.refl w).alloc _).trans hk).setCell (by simp) _).setCell (by simp) _ |>.setCell (by simp) _).setCell (by simp) _⟩
        | exact bodyPost_ret (v := .tuple #[.agg #[.int .i64 4, .int .i64 0, .string ⟨#[]⟩, .slice none 0 0], .int .i64 0]) (by simp [results, Try.results38, go_sem, hc1]) rfl ⟨HZ.out.symm, (((((Kp.refl w).alloc _).trans hk).setCell (by simp) _).setCell (by simp) _ |>.setCell (by simp) _).setCell (by simp) _⟩
end Go.Proofs.Ytmcidhjcimjeiaa
