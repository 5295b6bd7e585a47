/-
  Package types: Valid, parts, Params, Result. Condition: the text lies within the reach.
-/
import Derived.Test.YtmcidhjcimjeiaaTypesE
import Derived.Test.YtmcidhjcimjeiaaRegionP
namespace Go.Proofs.Ytmcidhjcimjeiaa
open Go.RowKit
set_option linter.unusedVariables false

theorem rest0 (S : ByteArray) : restOf S 0 = S.data.toList := rfl
theorem size_len (S : ByteArray) : S.data.toList.length = S.size := by rw [Array.length_toList]; rfl
theorem one_zero {S : ByteArray} {r : Bs} {f : Nat} (h : oneM f (restOf S 0) = some r) : S.size - r.length = S.size ↔ r = [] := by
  have := rest_one (Nat.zero_le _) h
  have h2 := rest_len (S := S) (a := S.size - r.length) (by omega)
  rw [this.2.2] at h2
  constructor
  · intro h3; exact List.eq_nil_of_length_eq_zero (by omega)
  · rintro rfl; rfl
set_option maxRecDepth 20000 in
set_option maxHeartbeats 1000000 in
theorem valid_any (w : World) (S : ByteArray) (hS : S.size ≤ 140737488351232) : Calls Try.prog 36 #[.string S] w fun e w' => e = .returned (.bool (validB S.data.toList)) ∧ Kp w w' := by
  by_cases hl : S.size ≤ 100
  · have h1 : decide (100 < S.size) = false := decide_eq_false (by omega)
    have h2 : ¬ ((100 : Int) < (S.size : Int)) := by omega
    have hr : RdrAt (w.alloc (.cells #[.string S, .int .i64 0] 74)) w.heap.size S 0 := blk_new _ _
    have HR := hid hr
    clear hr
    cases hz : oneM 101 (restOf S 0) with
    | none =>
      have HV : Hid (validB S.data.toList = false) := hid (by unfold validB; rw [← rest0, hz]; simp)
      have HZ := hid hz
      clear hz
      go_enter Try.func36, Try.ntmps36
      go_wp2_with (go_at_call 48; go_must (refine (((fun_one 101).2 _ w.heap.size S 0 HR.out (Nat.zero_le _) hS (by omega)).mono fun _ _ h => h.no HZ.out).mono ?_); rintro e w1 ⟨rfl, hg1⟩)
      go_ret
      exact ⟨ret_bool HV.out.symm, Below.one ((Kp.refl w).alloc _) hg1 (Nat.le_refl _) (by simp)⟩
    | some r =>
      have HZ := hid hz
      have hoz := one_zero hz
      have hle := (rest_one (Nat.zero_le _) hz).2.1
      by_cases h0 : r = []
      · have HV : Hid (validB S.data.toList = true) := hid (by unfold validB; rw [← rest0, hz, h0, rest0, size_len]; simp [hl])
        have ha : S.size - r.length = S.size := hoz.2 h0
        have HA := hid ha
        clear hz hoz ha h0
        go_enter Try.func36, Try.ntmps36
        go_wp2_with (go_at_call 48; go_must (refine (((fun_one 101).2 _ w.heap.size S 0 HR.out (Nat.zero_le _) hS (by omega)).mono fun _ _ h => h.yes HZ.out).mono ?_); rintro e w1 ⟨rfl, hr1, hg1⟩; rw [HA.out] at hr1; have c1 := hr1.c1)
        go_ret
        exact ⟨ret_bool HV.out.symm, Below.one ((Kp.refl w).alloc _) hg1 (Nat.le_refl _) (by simp)⟩
      · have HV : Hid (validB S.data.toList = false) := hid (by unfold validB; rw [← rest0, hz]; simp [h0])
        obtain ⟨a, ha⟩ : ∃ a, S.size - r.length = a := ⟨_, rfl⟩
        have HA := hid ha
        have hne : ((a : Int) == (S.size : Int)) = false := by rw [beq_eq_false_iff_ne]; intro h; apply h0; apply hoz.1; omega
        have hne2 : (a == S.size) = false := by rw [beq_eq_false_iff_ne]; intro h; apply h0; apply hoz.1; omega
        clear hz hoz ha h0
        go_enter Try.func36, Try.ntmps36
        go_wp2_with (go_at_call 48; go_must (refine (((fun_one 101).2 _ w.heap.size S 0 HR.out (Nat.zero_le _) hS (by omega)).mono fun _ _ h => h.yes HZ.out).mono ?_); rintro e w1 ⟨rfl, hr1, hg1⟩; rw [HA.out] at hr1; have c1 := hr1.c1)
        go_ret
        exact ⟨ret_bool HV.out.symm, Below.one ((Kp.refl w).alloc _) hg1 (Nat.le_refl _) (by simp)⟩
  · have h2 : (100 : Int) < (S.size : Int) := by omega
    have HV : Hid (validB S.data.toList = false) := hid (by unfold validB; rw [size_len]; simp [hl])
    go_enter Try.func36, Try.ntmps36
    go_wp2
    go_ret
    exact ⟨ret_bool HV.out.symm, Kp.refl _⟩
/-- Where parts begins. -/
theorem parts_start (w : World) (S : ByteArray) : EachSt w.heap.size (w.heap.size + 1) w.heap.size (w.heap.size + 3) (w.heap.size + 2) S w
    (((w.alloc (.cells #[.string S] 9)).alloc (.cells #[.slice none 0 0] 56)).alloc (.cells #[.string S, .int .i64 0] 74)) 0 [] := by
  have e1 : (w.alloc (.cells #[.string S] 9)).heap.size = w.heap.size + 1 := by simp
  have e2 : ((w.alloc (.cells #[.string S] 9)).alloc (.cells #[.slice none 0 0] 56)).heap.size = w.heap.size + 2 := by simp
  refine ⟨?_, blk_old (blk_old (blk_new _ _) _) _, ⟨.slice none 0 0, ?_, OwnS.nil _ _⟩, by omega, by simp, ((Kp.refl w).alloc _ |>.alloc _).alloc _⟩
  · have := blk_new ((w.alloc (.cells #[.string S] 9)).alloc (.cells #[.slice none 0 0] 56)) (.cells #[.string S, .int .i64 0] 74)
    rw [e2] at this; exact this
  · refine blk_old ?_ _
    have := blk_new (w.alloc (.cells #[.string S] 9)) (.cells #[.slice none 0 0] 56)
    rw [e1] at this; exact this
def PartsP (w : World) (o : Option (List Bs)) (e : Ending) (w' : World) : Prop :=
  (∃ ps v, o = some ps ∧ e = .returned (.tuple #[v, .int .i64 0]) ∧ OwnS w' w.heap.size v (ps.map bsB) ∧ Kp w w') ∨ (o = none ∧ e = .returned (.tuple #[.slice none 0 0, .int .i64 9]) ∧ Kp w w')
set_option maxRecDepth 20000 in
set_option maxHeartbeats 4000000 in
theorem parts_any (w : World) (S : ByteArray) (hS : S.size ≤ 140737488351232) : Calls Try.prog 47 #[.string S] w (PartsP w (partsM S.data.toList)) := by
  by_cases hl : S.size ≤ 100
  · have i1 : decide (100 < S.size) = false := decide_eq_false (by omega)
    have i2 : decide ((100 : Int) < (S.size : Int)) = false := decide_eq_false (by omega)
    have hst := parts_start w S
    have HS := hid hst
    clear hst
    have hf := fun_each 100 (fun_one 100).2
    have HF := hid hf
    clear hf
    obtain ⟨b2, hb2⟩ : ∃ b2, b2 = w.heap.size + 2 := ⟨_, rfl⟩
    cases hz : funM (oneM 100) (restOf S 0) with
    | none =>
      have HZ := hid hz
      have HV : Hid (partsM S.data.toList = none) := hid (by unfold partsM; rw [size_len, if_pos hl, ← rest0, hz])
      clear hz
      go_enter Try.func47, Try.ntmps47
      go_wp2
      refine wp_region_phase [6] [(0, 0), (0, 0), (0, 0), (0, 0), (0, 0), (0, 0), (0, 0), (1, 1), (1, 1), (1, 1), (1, 1), (1, 1), (1, 1), (1, 1), (1, 1), (1, 1), (1, 1), (1, 1)] (fun _ _ => True) [[], [0], [1], [2], [3], [3], [3, 4, 5], [3, 6], [3, 7], [8], [9], [9, 10], [9, 11], [9, 12], [9], [9, 14], [9, 13, 15], [9, 16]]
        (fun (p : Nat) (x : Nat → Value) (u : World) => match p with | 0 => EachSt w.heap.size (w.heap.size + 1) w.heap.size (w.heap.size + 3) (w.heap.size + 2) S w u 0 [] | _ => Kp w u)
        [fun (y : Value) (u : World) => y = (.string S : Value),
         fun (y : Value) (u : World) => y = (.int .i64 (S.size : Int) : Value),
         fun (y : Value) (u : World) => y = (.bool false : Value),
         fun (y : Value) (u : World) => y = (.bool false : Value),
         fun (y : Value) (u : World) => y = (.pointer (some ⟨w.heap.size + 2, 0, none⟩) : Value),
         fun (y : Value) (u : World) => y = (.func (.func 54) #[] #[.pointer (some ⟨w.heap.size + 1, 0, none⟩), .pointer (some ⟨w.heap.size, 0, none⟩)] : Value),
         fun (y : Value) (u : World) => y = (.bool false : Value),
         fun (y : Value) (u : World) => y = (.bool true : Value),
         fun (y : Value) (u : World) => y = (.bool true : Value),
         fun (y : Value) (u : World) => y = (.bool true : Value),
         fun (y : Value) (u : World) => y = (undef : Value),
         fun (y : Value) (u : World) => y = (undef : Value),
         fun (y : Value) (u : World) => y = (undef : Value),
         fun (y : Value) (u : World) => y = (undef : Value),
         fun (y : Value) (u : World) => y = (undef : Value),
         fun (y : Value) (u : World) => y = (undef : Value),
         fun (y : Value) (u : World) => y = (undef : Value),
         fun (y : Value) (u : World) => y = (.bool true : Value)]
        (by kernel_rfl) (by kernel_rfl) (by kernel_rfl) (by kernel_rfl) (by kernel_rfl) (by kernel_rfl) (fun _ _ _ => trivial) (HS.out.drew) ?hKb ?hXb ⟨fun _ _ _ _ h => h, fun _ _ _ _ h => h, fun _ _ _ _ h => h, fun _ _ _ _ h => h, fun _ _ _ _ h => h, fun _ _ _ _ h => h, fun _ _ _ _ h => h, fun _ _ _ _ h => h, fun _ _ _ _ h => h, fun _ _ _ _ h => h, fun _ _ _ _ h => h, fun _ _ _ _ h => h, fun _ _ _ _ h => h, fun _ _ _ _ h => h, fun _ _ _ _ h => h, fun _ _ _ _ h => h, fun _ _ _ _ h => h, fun _ _ _ _ h => h, trivial⟩ ⟨?sb0, ?sb1, ?sb2, ?sb3, ?sb4, ?sb5, ?sb6, ?sb7, ?sb8, ?sb9, ?sb10, ?sb11, ?sb12, ?sb13, ?sb14, ?sb15, ?sb16, ?sb17, trivial⟩ ?hEb
      case hKb =>
        intro p x w w' hk h
        rcases p with _ | p
        · exact h.step' hk
        · exact h.trans hk
      case hXb =>
        intro p x i v w hi h
        have e0 : upd x i v 6 = x 6 := if_neg (fun hh => hi (by rw [← hh]; decide))
        rcases p with _ | p
        · first | exact h | (simp only [e0]; exact h)
        · first | exact h | (simp only [e0]; exact h)
      case sb0 =>
        refine OpStepQ.off 0 0 (by kernel_rfl) (by kernel_rfl) ?_
        intro x u p hp hg hd K hK
        obtain rfl : p = 0 := by omega
        change EachSt w.heap.size (w.heap.size + 1) w.heap.size (w.heap.size + 3) (w.heap.size + 2) S w u 0 [] at hg
        clear hd
        have cT := blk_cell (o := 0) (v := .string S) hg.bt rfl
        refine ⟨?_⟩
        simp only [putsFrom, Act.put, List.setIfInBounds_toArray, List.set_cons_zero, List.set_cons_succ, Nat.reduceAdd] at hK ⊢
        go_simp
        exact hK.out _ _ (Kp.refl _) rfl
      case sb1 =>
        refine OpStepQ.off 0 0 (by kernel_rfl) (by kernel_rfl) ?_
        intro x u p hp hg hd K hK
        obtain rfl : p = 0 := by omega
        change EachSt w.heap.size (w.heap.size + 1) w.heap.size (w.heap.size + 3) (w.heap.size + 2) S w u 0 [] at hg
        have d0 : (x 0) = .string S := And.left hd
        clear hd
        refine ⟨?_⟩
        simp only [putsFrom, Act.put, List.setIfInBounds_toArray, List.set_cons_zero, List.set_cons_succ, Nat.reduceAdd, d0] at hK ⊢
        go_simp
        exact hK.out _ _ (Kp.refl _) rfl
      case sb2 =>
        refine OpStepQ.off 0 0 (by kernel_rfl) (by kernel_rfl) ?_
        intro x u p hp hg hd K hK
        obtain rfl : p = 0 := by omega
        change EachSt w.heap.size (w.heap.size + 1) w.heap.size (w.heap.size + 3) (w.heap.size + 2) S w u 0 [] at hg
        have d1 : (x 1) = .int .i64 (S.size : Int) := And.left hd
        clear hd
        refine ⟨?_⟩
        simp only [putsFrom, Act.put, List.setIfInBounds_toArray, List.set_cons_zero, List.set_cons_succ, Nat.reduceAdd, d1] at hK ⊢
        go_simp
        exact hK.out _ _ (Kp.refl _) rfl
      case sb3 =>
        refine OpStepQ.off 0 0 (by kernel_rfl) (by kernel_rfl) ?_
        intro x u p hp hg hd K hK
        obtain rfl : p = 0 := by omega
        change EachSt w.heap.size (w.heap.size + 1) w.heap.size (w.heap.size + 3) (w.heap.size + 2) S w u 0 [] at hg
        have d2 : (x 2) = .bool false := And.left hd
        clear hd
        refine ⟨?_⟩
        simp only [putsFrom, Act.put, List.setIfInBounds_toArray, List.set_cons_zero, List.set_cons_succ, Nat.reduceAdd, d2] at hK ⊢
        go_simp
        exact hK.out _ _ (Kp.refl _) rfl
      case sb4 =>
        refine OpStepQ.off 0 0 (by kernel_rfl) (by kernel_rfl) ?_
        intro x u p hp hg hd K hK
        obtain rfl : p = 0 := by omega
        change EachSt w.heap.size (w.heap.size + 1) w.heap.size (w.heap.size + 3) (w.heap.size + 2) S w u 0 [] at hg
        have d3 : (x 3) = .bool false := And.left hd
        clear hd
        refine ⟨?_⟩
        simp only [putsFrom, Act.put, List.setIfInBounds_toArray, List.set_cons_zero, List.set_cons_succ, Nat.reduceAdd, d3] at hK ⊢
        go_simp
        exact hK.out _ _ (Kp.refl _) rfl
      case sb5 =>
        refine OpStepQ.off 0 0 (by kernel_rfl) (by kernel_rfl) ?_
        intro x u p hp hg hd K hK
        obtain rfl : p = 0 := by omega
        change EachSt w.heap.size (w.heap.size + 1) w.heap.size (w.heap.size + 3) (w.heap.size + 2) S w u 0 [] at hg
        have d3 : (x 3) = .bool false := And.left hd
        clear hd
        refine ⟨?_⟩
        simp only [putsFrom, Act.put, List.setIfInBounds_toArray, List.set_cons_zero, List.set_cons_succ, Nat.reduceAdd, d3] at hK ⊢
        go_simp
        exact hK.out _ _ (Kp.refl _) rfl
      case sb6 =>
        refine OpStepQ.on 0 (by kernel_rfl) (by kernel_rfl) ?_
        intro x u hg hd K hK
        change EachSt w.heap.size (w.heap.size + 1) w.heap.size (w.heap.size + 3) (w.heap.size + 2) S w u 0 [] at hg
        have d3 : (x 3) = .bool false := And.left hd
        have d4 : (x 4) = .pointer (some ⟨w.heap.size + 2, 0, none⟩) := And.left (And.right hd)
        have d5 : (x 5) = .func (.func 54) #[] #[.pointer (some ⟨w.heap.size + 1, 0, none⟩), .pointer (some ⟨w.heap.size, 0, none⟩)] := And.left (And.right (And.right hd))
        clear hd
        refine ⟨?_⟩
        simp only [putsFrom, Act.put, List.setIfInBounds_toArray, List.set_cons_zero, List.set_cons_succ, Nat.reduceAdd, d3, d4, d5] at hK ⊢
        go_simp
        go_at_call 55
        have hc := ((HF.out u w _ _ _ _ _ S 0 hg (Nat.zero_le _) hS (by omega)).mono fun _ _ h => h.no HZ.out)
        refine hc.mono ?_
        clear hc
        rintro e u' ⟨rfl, hb⟩
        dsimp only
        exact hK.out _ _ trivial hb rfl
      case sb7 =>
        refine OpStepQ.off 1 1 (by kernel_rfl) (by kernel_rfl) ?_
        intro x u p hp hg hd K hK
        obtain rfl : p = 1 := by omega
        change Kp w u at hg
        have d3 : (x 3) = .bool false := And.left hd
        have d6 : (x 6) = .bool false := And.left (And.right hd)
        clear hd
        refine ⟨?_⟩
        simp only [putsFrom, Act.put, List.setIfInBounds_toArray, List.set_cons_zero, List.set_cons_succ, Nat.reduceAdd, d3, d6] at hK ⊢
        go_simp
        exact hK.out _ _ (Kp.refl _) rfl
      case sb8 =>
        refine OpStepQ.off 1 1 (by kernel_rfl) (by kernel_rfl) ?_
        intro x u p hp hg hd K hK
        obtain rfl : p = 1 := by omega
        change Kp w u at hg
        have d3 : (x 3) = .bool false := And.left hd
        have d7 : (x 7) = .bool true := And.left (And.right hd)
        clear hd
        refine ⟨?_⟩
        simp only [putsFrom, Act.put, List.setIfInBounds_toArray, List.set_cons_zero, List.set_cons_succ, Nat.reduceAdd, d3, d7] at hK ⊢
        go_simp
        exact hK.out _ _ (Kp.refl _) rfl
      case sb9 =>
        refine OpStepQ.off 1 1 (by kernel_rfl) (by kernel_rfl) ?_
        intro x u p hp hg hd K hK
        obtain rfl : p = 1 := by omega
        change Kp w u at hg
        have d8 : (x 8) = .bool true := And.left hd
        clear hd
        refine ⟨?_⟩
        simp only [putsFrom, Act.put, List.setIfInBounds_toArray, List.set_cons_zero, List.set_cons_succ, Nat.reduceAdd, d8] at hK ⊢
        go_simp
        exact hK.out _ _ (Kp.refl _) rfl
      case sb10 =>
        refine OpStepQ.off 1 1 (by kernel_rfl) (by kernel_rfl) ?_
        intro x u p hp hg hd K hK
        obtain rfl : p = 1 := by omega
        change Kp w u at hg
        have d9 : (x 9) = .bool true := And.left hd
        clear hd
        refine ⟨?_⟩
        simp only [putsFrom, Act.put, List.setIfInBounds_toArray, List.set_cons_zero, List.set_cons_succ, Nat.reduceAdd, d9] at hK ⊢
        go_simp
        exact hK.out _ _ (Kp.refl _) rfl
      case sb11 =>
        refine OpStepQ.off 1 1 (by kernel_rfl) (by kernel_rfl) ?_
        intro x u p hp hg hd K hK
        obtain rfl : p = 1 := by omega
        change Kp w u at hg
        have d9 : (x 9) = .bool true := And.left hd
        have d10 : (x 10) = undef := And.left (And.right hd)
        clear hd
        refine ⟨?_⟩
        simp only [putsFrom, Act.put, List.setIfInBounds_toArray, List.set_cons_zero, List.set_cons_succ, Nat.reduceAdd, d9, d10] at hK ⊢
        go_simp
        exact hK.out _ _ (Kp.refl _) rfl
      case sb12 =>
        refine OpStepQ.off 1 1 (by kernel_rfl) (by kernel_rfl) ?_
        intro x u p hp hg hd K hK
        obtain rfl : p = 1 := by omega
        change Kp w u at hg
        have d9 : (x 9) = .bool true := And.left hd
        have d11 : (x 11) = undef := And.left (And.right hd)
        clear hd
        refine ⟨?_⟩
        simp only [putsFrom, Act.put, List.setIfInBounds_toArray, List.set_cons_zero, List.set_cons_succ, Nat.reduceAdd, d9, d11] at hK ⊢
        go_simp
        exact hK.out _ _ (Kp.refl _) rfl
      case sb13 =>
        refine OpStepQ.off 1 1 (by kernel_rfl) (by kernel_rfl) ?_
        intro x u p hp hg hd K hK
        obtain rfl : p = 1 := by omega
        change Kp w u at hg
        have d9 : (x 9) = .bool true := And.left hd
        have d12 : (x 12) = undef := And.left (And.right hd)
        clear hd
        refine ⟨?_⟩
        simp only [putsFrom, Act.put, List.setIfInBounds_toArray, List.set_cons_zero, List.set_cons_succ, Nat.reduceAdd, d9, d12] at hK ⊢
        go_simp
        exact hK.out _ _ (Kp.refl _) rfl
      case sb14 =>
        refine OpStepQ.off 1 1 (by kernel_rfl) (by kernel_rfl) ?_
        intro x u p hp hg hd K hK
        obtain rfl : p = 1 := by omega
        change Kp w u at hg
        have d9 : (x 9) = .bool true := And.left hd
        clear hd
        refine ⟨?_⟩
        simp only [putsFrom, Act.put, List.setIfInBounds_toArray, List.set_cons_zero, List.set_cons_succ, Nat.reduceAdd, d9] at hK ⊢
        go_simp
        exact hK.out _ _ (Kp.refl _) rfl
      case sb15 =>
        refine OpStepQ.off 1 1 (by kernel_rfl) (by kernel_rfl) ?_
        intro x u p hp hg hd K hK
        obtain rfl : p = 1 := by omega
        change Kp w u at hg
        have d9 : (x 9) = .bool true := And.left hd
        have d14 : (x 14) = undef := And.left (And.right hd)
        clear hd
        refine ⟨?_⟩
        simp only [putsFrom, Act.put, List.setIfInBounds_toArray, List.set_cons_zero, List.set_cons_succ, Nat.reduceAdd, d9, d14] at hK ⊢
        go_simp
        exact hK.out _ _ (Kp.refl _) rfl
      case sb16 =>
        refine OpStepQ.off 1 1 (by kernel_rfl) (by kernel_rfl) ?_
        intro x u p hp hg hd K hK
        obtain rfl : p = 1 := by omega
        change Kp w u at hg
        have d9 : (x 9) = .bool true := And.left hd
        have d13 : (x 13) = undef := And.left (And.right hd)
        have d15 : (x 15) = undef := And.left (And.right (And.right hd))
        clear hd
        refine ⟨?_⟩
        simp only [putsFrom, Act.put, List.setIfInBounds_toArray, List.set_cons_zero, List.set_cons_succ, Nat.reduceAdd, d9, d13, d15] at hK ⊢
        go_simp
        exact hK.out _ _ (Kp.refl _) rfl
      case sb17 =>
        refine OpStepQ.off 1 1 (by kernel_rfl) (by kernel_rfl) ?_
        intro x u p hp hg hd K hK
        obtain rfl : p = 1 := by omega
        change Kp w u at hg
        have d9 : (x 9) = .bool true := And.left hd
        have d16 : (x 16) = undef := And.left (And.right hd)
        clear hd
        refine ⟨?_⟩
        simp only [putsFrom, Act.put, List.setIfInBounds_toArray, List.set_cons_zero, List.set_cons_succ, Nat.reduceAdd, d9, d16] at hK ⊢
        go_simp
        exact hK.out _ _ (Kp.refl _) rfl
      intro x u hg he
      have d0 : (x 0) = .string S := And.left he
      have d1 : (x 1) = .int .i64 (S.size : Int) := And.left (And.right he)
      have d2 : (x 2) = .bool false := And.left (And.right (And.right he))
      have d3 : (x 3) = .bool false := And.left (And.right (And.right (And.right he)))
      have d4 : (x 4) = .pointer (some ⟨w.heap.size + 2, 0, none⟩) := And.left (And.right (And.right (And.right (And.right he))))
      have d5 : (x 5) = .func (.func 54) #[] #[.pointer (some ⟨w.heap.size + 1, 0, none⟩), .pointer (some ⟨w.heap.size, 0, none⟩)] := And.left (And.right (And.right (And.right (And.right (And.right he)))))
      have d6 : (x 6) = .bool false := And.left (And.right (And.right (And.right (And.right (And.right (And.right he))))))
      have d7 : (x 7) = .bool true := And.left (And.right (And.right (And.right (And.right (And.right (And.right (And.right he)))))))
      have d8 : (x 8) = .bool true := And.left (And.right (And.right (And.right (And.right (And.right (And.right (And.right (And.right he))))))))
      have d9 : (x 9) = .bool true := And.left (And.right (And.right (And.right (And.right (And.right (And.right (And.right (And.right (And.right he)))))))))
      have d10 : (x 10) = undef := And.left (And.right (And.right (And.right (And.right (And.right (And.right (And.right (And.right (And.right (And.right he))))))))))
      have d11 : (x 11) = undef := And.left (And.right (And.right (And.right (And.right (And.right (And.right (And.right (And.right (And.right (And.right (And.right he)))))))))))
      have d12 : (x 12) = undef := And.left (And.right (And.right (And.right (And.right (And.right (And.right (And.right (And.right (And.right (And.right (And.right (And.right he))))))))))))
      have d13 : (x 13) = undef := And.left (And.right (And.right (And.right (And.right (And.right (And.right (And.right (And.right (And.right (And.right (And.right (And.right (And.right he)))))))))))))
      have d14 : (x 14) = undef := And.left (And.right (And.right (And.right (And.right (And.right (And.right (And.right (And.right (And.right (And.right (And.right (And.right (And.right (And.right he))))))))))))))
      have d15 : (x 15) = undef := And.left (And.right (And.right (And.right (And.right (And.right (And.right (And.right (And.right (And.right (And.right (And.right (And.right (And.right (And.right (And.right he)))))))))))))))
      have d16 : (x 16) = undef := And.left (And.right (And.right (And.right (And.right (And.right (And.right (And.right (And.right (And.right (And.right (And.right (And.right (And.right (And.right (And.right (And.right he))))))))))))))))
      have d17 : (x 17) = .bool true := And.left (And.right (And.right (And.right (And.right (And.right (And.right (And.right (And.right (And.right (And.right (And.right (And.right (And.right (And.right (And.right (And.right (And.right he)))))))))))))))))
      clear he
      change Kp w u at hg
      refine ⟨?_⟩
      simp only [putsFrom, Act.put, List.setIfInBounds_toArray, List.set_cons_zero, List.set_cons_succ, Nat.reduceAdd, d0, d1, d2, d3, d4, d5, d6, d7, d8, d9, d10, d11, d12, d13, d14, d15, d16, d17]
      clear d0 d1 d2 d3 d4 d5 d6 d7 d8 d9 d10 d11 d12 d13 d14 d15 d16 d17
      go_wp2
      go_ret2
      exact .inr ⟨HV.out, rfl, hg⟩
    | some p =>
      obtain ⟨ps, r⟩ := p
      have HZ := hid hz
      obtain ⟨a, ha⟩ : ∃ a, S.size - r.length = a := ⟨_, rfl⟩
      have HA := hid ha
      have hrl : r.length ≤ S.size := by
        obtain ⟨q, _, e⟩ := funM_ends (oneM_ends 100) hz
        have := congrArg List.length e
        rw [rest0, size_len, List.length_append] at this; dsimp only at this; omega
      by_cases h0 : r = []
      · have HV : Hid (partsM S.data.toList = some ps) := hid (by unfold partsM; rw [size_len, if_pos hl, ← rest0, hz, h0])
        have haS : a = S.size := by rw [← ha, h0]; rfl
        have e1 : ((a : Int) == (S.size : Int)) = true := by rw [haS]; simp
        have e2 : ((a : Int) != (S.size : Int)) = false := by rw [haS]; simp
        have e3 : (a == S.size) = true := by rw [haS]; simp
        have e4 : (a != S.size) = false := by rw [haS]; simp
        clear hz ha haS h0 hrl
        go_enter Try.func47, Try.ntmps47
        go_wp2
        refine wp_region_phase [6] [(0, 0), (0, 0), (0, 0), (0, 0), (0, 0), (0, 0), (0, 0), (1, 1), (1, 1), (1, 1), (1, 1), (1, 1), (1, 1), (1, 1), (1, 1), (1, 1), (1, 1), (1, 1)] (fun _ _ => True) [[], [0], [1], [2], [3], [3], [3, 4, 5], [3, 6], [3, 7], [8], [9], [9, 10], [9, 11], [9, 12], [9], [9, 14], [9, 13, 15], [9, 16]]
          (fun (p : Nat) (x : Nat → Value) (u : World) => match p with | 0 => EachSt w.heap.size (w.heap.size + 1) w.heap.size (w.heap.size + 3) (w.heap.size + 2) S w u 0 [] | _ => EachSt w.heap.size (w.heap.size + 1) w.heap.size (w.heap.size + 3) (w.heap.size + 2) S w u a ps)
          [fun (y : Value) (u : World) => y = (.string S : Value),
           fun (y : Value) (u : World) => y = (.int .i64 (S.size : Int) : Value),
           fun (y : Value) (u : World) => y = (.bool false : Value),
           fun (y : Value) (u : World) => y = (.bool false : Value),
           fun (y : Value) (u : World) => y = (.pointer (some ⟨w.heap.size + 2, 0, none⟩) : Value),
           fun (y : Value) (u : World) => y = (.func (.func 54) #[] #[.pointer (some ⟨w.heap.size + 1, 0, none⟩), .pointer (some ⟨w.heap.size, 0, none⟩)] : Value),
           fun (y : Value) (u : World) => y = (.bool true : Value),
           fun (y : Value) (u : World) => y = (.bool false : Value),
           fun (y : Value) (u : World) => y = (.bool false : Value),
           fun (y : Value) (u : World) => y = (.bool false : Value),
           fun (y : Value) (u : World) => y = (.pointer (some ⟨w.heap.size + 2, 0, none⟩) : Value),
           fun (y : Value) (u : World) => y = (.pointer (some ⟨w.heap.size + 2, 0, none⟩) : Value),
           fun (y : Value) (u : World) => y = (.pointer (some ⟨w.heap.size + 2, 1, none⟩) : Value),
           fun (y : Value) (u : World) => y = (.int .i64 (a : Int) : Value),
           fun (y : Value) (u : World) => y = (.string S : Value),
           fun (y : Value) (u : World) => y = (.int .i64 (S.size : Int) : Value),
           fun (y : Value) (u : World) => y = (.bool false : Value),
           fun (y : Value) (u : World) => y = (.bool false : Value)]
          (by kernel_rfl) (by kernel_rfl) (by kernel_rfl) (by kernel_rfl) (by kernel_rfl) (by kernel_rfl) (fun _ _ _ => trivial) (HS.out.drew) ?hKc ?hXc ⟨fun _ _ _ _ h => h, fun _ _ _ _ h => h, fun _ _ _ _ h => h, fun _ _ _ _ h => h, fun _ _ _ _ h => h, fun _ _ _ _ h => h, fun _ _ _ _ h => h, fun _ _ _ _ h => h, fun _ _ _ _ h => h, fun _ _ _ _ h => h, fun _ _ _ _ h => h, fun _ _ _ _ h => h, fun _ _ _ _ h => h, fun _ _ _ _ h => h, fun _ _ _ _ h => h, fun _ _ _ _ h => h, fun _ _ _ _ h => h, fun _ _ _ _ h => h, trivial⟩ ⟨?sc0, ?sc1, ?sc2, ?sc3, ?sc4, ?sc5, ?sc6, ?sc7, ?sc8, ?sc9, ?sc10, ?sc11, ?sc12, ?sc13, ?sc14, ?sc15, ?sc16, ?sc17, trivial⟩ ?hEc
        case hKc =>
          intro p x w w' hk h
          rcases p with _ | p
          · exact h.step' hk
          · exact h.step' hk
        case hXc =>
          intro p x i v w hi h
          have e0 : upd x i v 6 = x 6 := if_neg (fun hh => hi (by rw [← hh]; decide))
          rcases p with _ | p
          · first | exact h | (simp only [e0]; exact h)
          · first | exact h | (simp only [e0]; exact h)
        case sc0 =>
          refine OpStepQ.off 0 0 (by kernel_rfl) (by kernel_rfl) ?_
          intro x u p hp hg hd K hK
          obtain rfl : p = 0 := by omega
          change EachSt w.heap.size (w.heap.size + 1) w.heap.size (w.heap.size + 3) (w.heap.size + 2) S w u 0 [] at hg
          clear hd
          have cT := blk_cell (o := 0) (v := .string S) hg.bt rfl
          refine ⟨?_⟩
          simp only [putsFrom, Act.put, List.setIfInBounds_toArray, List.set_cons_zero, List.set_cons_succ, Nat.reduceAdd] at hK ⊢
          go_simp
          exact hK.out _ _ (Kp.refl _) rfl
        case sc1 =>
          refine OpStepQ.off 0 0 (by kernel_rfl) (by kernel_rfl) ?_
          intro x u p hp hg hd K hK
          obtain rfl : p = 0 := by omega
          change EachSt w.heap.size (w.heap.size + 1) w.heap.size (w.heap.size + 3) (w.heap.size + 2) S w u 0 [] at hg
          have d0 : (x 0) = .string S := And.left hd
          clear hd
          refine ⟨?_⟩
          simp only [putsFrom, Act.put, List.setIfInBounds_toArray, List.set_cons_zero, List.set_cons_succ, Nat.reduceAdd, d0] at hK ⊢
          go_simp
          exact hK.out _ _ (Kp.refl _) rfl
        case sc2 =>
          refine OpStepQ.off 0 0 (by kernel_rfl) (by kernel_rfl) ?_
          intro x u p hp hg hd K hK
          obtain rfl : p = 0 := by omega
          change EachSt w.heap.size (w.heap.size + 1) w.heap.size (w.heap.size + 3) (w.heap.size + 2) S w u 0 [] at hg
          have d1 : (x 1) = .int .i64 (S.size : Int) := And.left hd
          clear hd
          refine ⟨?_⟩
          simp only [putsFrom, Act.put, List.setIfInBounds_toArray, List.set_cons_zero, List.set_cons_succ, Nat.reduceAdd, d1] at hK ⊢
          go_simp
          exact hK.out _ _ (Kp.refl _) rfl
        case sc3 =>
          refine OpStepQ.off 0 0 (by kernel_rfl) (by kernel_rfl) ?_
          intro x u p hp hg hd K hK
          obtain rfl : p = 0 := by omega
          change EachSt w.heap.size (w.heap.size + 1) w.heap.size (w.heap.size + 3) (w.heap.size + 2) S w u 0 [] at hg
          have d2 : (x 2) = .bool false := And.left hd
          clear hd
          refine ⟨?_⟩
          simp only [putsFrom, Act.put, List.setIfInBounds_toArray, List.set_cons_zero, List.set_cons_succ, Nat.reduceAdd, d2] at hK ⊢
          go_simp
          exact hK.out _ _ (Kp.refl _) rfl
        case sc4 =>
          refine OpStepQ.off 0 0 (by kernel_rfl) (by kernel_rfl) ?_
          intro x u p hp hg hd K hK
          obtain rfl : p = 0 := by omega
          change EachSt w.heap.size (w.heap.size + 1) w.heap.size (w.heap.size + 3) (w.heap.size + 2) S w u 0 [] at hg
          have d3 : (x 3) = .bool false := And.left hd
          clear hd
          refine ⟨?_⟩
          simp only [putsFrom, Act.put, List.setIfInBounds_toArray, List.set_cons_zero, List.set_cons_succ, Nat.reduceAdd, d3] at hK ⊢
          go_simp
          exact hK.out _ _ (Kp.refl _) rfl
        case sc5 =>
          refine OpStepQ.off 0 0 (by kernel_rfl) (by kernel_rfl) ?_
          intro x u p hp hg hd K hK
          obtain rfl : p = 0 := by omega
          change EachSt w.heap.size (w.heap.size + 1) w.heap.size (w.heap.size + 3) (w.heap.size + 2) S w u 0 [] at hg
          have d3 : (x 3) = .bool false := And.left hd
          clear hd
          refine ⟨?_⟩
          simp only [putsFrom, Act.put, List.setIfInBounds_toArray, List.set_cons_zero, List.set_cons_succ, Nat.reduceAdd, d3] at hK ⊢
          go_simp
          exact hK.out _ _ (Kp.refl _) rfl
        case sc6 =>
          refine OpStepQ.on 0 (by kernel_rfl) (by kernel_rfl) ?_
          intro x u hg hd K hK
          change EachSt w.heap.size (w.heap.size + 1) w.heap.size (w.heap.size + 3) (w.heap.size + 2) S w u 0 [] at hg
          have d3 : (x 3) = .bool false := And.left hd
          have d4 : (x 4) = .pointer (some ⟨w.heap.size + 2, 0, none⟩) := And.left (And.right hd)
          have d5 : (x 5) = .func (.func 54) #[] #[.pointer (some ⟨w.heap.size + 1, 0, none⟩), .pointer (some ⟨w.heap.size, 0, none⟩)] := And.left (And.right (And.right hd))
          clear hd
          refine ⟨?_⟩
          simp only [putsFrom, Act.put, List.setIfInBounds_toArray, List.set_cons_zero, List.set_cons_succ, Nat.reduceAdd, d3, d4, d5] at hK ⊢
          go_simp
          go_at_call 55
          have hc := ((HF.out u w _ _ _ _ _ S 0 hg (Nat.zero_le _) hS (by omega)).mono fun _ _ h => h.yes HZ.out)
          refine hc.mono ?_
          clear hc
          rintro e u' ⟨rfl, hE⟩
          dsimp only
          exact hK.out _ _ trivial (by rw [HA.out] at hE; exact hE) rfl
        case sc7 =>
          refine OpStepQ.off 1 1 (by kernel_rfl) (by kernel_rfl) ?_
          intro x u p hp hg hd K hK
          obtain rfl : p = 1 := by omega
          change EachSt w.heap.size (w.heap.size + 1) w.heap.size (w.heap.size + 3) (w.heap.size + 2) S w u a ps at hg
          have d3 : (x 3) = .bool false := And.left hd
          have d6 : (x 6) = .bool true := And.left (And.right hd)
          clear hd
          refine ⟨?_⟩
          simp only [putsFrom, Act.put, List.setIfInBounds_toArray, List.set_cons_zero, List.set_cons_succ, Nat.reduceAdd, d3, d6] at hK ⊢
          go_simp
          exact hK.out _ _ (Kp.refl _) rfl
        case sc8 =>
          refine OpStepQ.off 1 1 (by kernel_rfl) (by kernel_rfl) ?_
          intro x u p hp hg hd K hK
          obtain rfl : p = 1 := by omega
          change EachSt w.heap.size (w.heap.size + 1) w.heap.size (w.heap.size + 3) (w.heap.size + 2) S w u a ps at hg
          have d3 : (x 3) = .bool false := And.left hd
          have d7 : (x 7) = .bool false := And.left (And.right hd)
          clear hd
          refine ⟨?_⟩
          simp only [putsFrom, Act.put, List.setIfInBounds_toArray, List.set_cons_zero, List.set_cons_succ, Nat.reduceAdd, d3, d7] at hK ⊢
          go_simp
          exact hK.out _ _ (Kp.refl _) rfl
        case sc9 =>
          refine OpStepQ.off 1 1 (by kernel_rfl) (by kernel_rfl) ?_
          intro x u p hp hg hd K hK
          obtain rfl : p = 1 := by omega
          change EachSt w.heap.size (w.heap.size + 1) w.heap.size (w.heap.size + 3) (w.heap.size + 2) S w u a ps at hg
          have d8 : (x 8) = .bool false := And.left hd
          clear hd
          refine ⟨?_⟩
          simp only [putsFrom, Act.put, List.setIfInBounds_toArray, List.set_cons_zero, List.set_cons_succ, Nat.reduceAdd, d8] at hK ⊢
          go_simp
          exact hK.out _ _ (Kp.refl _) rfl
        case sc10 =>
          refine OpStepQ.off 1 1 (by kernel_rfl) (by kernel_rfl) ?_
          intro x u p hp hg hd K hK
          obtain rfl : p = 1 := by omega
          change EachSt w.heap.size (w.heap.size + 1) w.heap.size (w.heap.size + 3) (w.heap.size + 2) S w u a ps at hg
          have d9 : (x 9) = .bool false := And.left hd
          clear hd
          refine ⟨?_⟩
          simp only [putsFrom, Act.put, List.setIfInBounds_toArray, List.set_cons_zero, List.set_cons_succ, Nat.reduceAdd, d9] at hK ⊢
          go_simp
          exact hK.out _ _ (Kp.refl _) rfl
        case sc11 =>
          refine OpStepQ.off 1 1 (by kernel_rfl) (by kernel_rfl) ?_
          intro x u p hp hg hd K hK
          obtain rfl : p = 1 := by omega
          change EachSt w.heap.size (w.heap.size + 1) w.heap.size (w.heap.size + 3) (w.heap.size + 2) S w u a ps at hg
          have d9 : (x 9) = .bool false := And.left hd
          have d10 : (x 10) = .pointer (some ⟨w.heap.size + 2, 0, none⟩) := And.left (And.right hd)
          clear hd
          refine ⟨?_⟩
          simp only [putsFrom, Act.put, List.setIfInBounds_toArray, List.set_cons_zero, List.set_cons_succ, Nat.reduceAdd, d9, d10] at hK ⊢
          go_simp
          exact hK.out _ _ (Kp.refl _) rfl
        case sc12 =>
          refine OpStepQ.off 1 1 (by kernel_rfl) (by kernel_rfl) ?_
          intro x u p hp hg hd K hK
          obtain rfl : p = 1 := by omega
          change EachSt w.heap.size (w.heap.size + 1) w.heap.size (w.heap.size + 3) (w.heap.size + 2) S w u a ps at hg
          have d9 : (x 9) = .bool false := And.left hd
          have d11 : (x 11) = .pointer (some ⟨w.heap.size + 2, 0, none⟩) := And.left (And.right hd)
          clear hd
          refine ⟨?_⟩
          simp only [putsFrom, Act.put, List.setIfInBounds_toArray, List.set_cons_zero, List.set_cons_succ, Nat.reduceAdd, d9, d11] at hK ⊢
          go_simp
          exact hK.out _ _ (Kp.refl _) rfl
        case sc13 =>
          refine OpStepQ.off 1 1 (by kernel_rfl) (by kernel_rfl) ?_
          intro x u p hp hg hd K hK
          obtain rfl : p = 1 := by omega
          change EachSt w.heap.size (w.heap.size + 1) w.heap.size (w.heap.size + 3) (w.heap.size + 2) S w u a ps at hg
          have d9 : (x 9) = .bool false := And.left hd
          have d12 : (x 12) = .pointer (some ⟨w.heap.size + 2, 1, none⟩) := And.left (And.right hd)
          clear hd
          have c1 := hg.rd.c1
          refine ⟨?_⟩
          simp only [putsFrom, Act.put, List.setIfInBounds_toArray, List.set_cons_zero, List.set_cons_succ, Nat.reduceAdd, d9, d12] at hK ⊢
          go_simp
          exact hK.out _ _ (Kp.refl _) rfl
        case sc14 =>
          refine OpStepQ.off 1 1 (by kernel_rfl) (by kernel_rfl) ?_
          intro x u p hp hg hd K hK
          obtain rfl : p = 1 := by omega
          change EachSt w.heap.size (w.heap.size + 1) w.heap.size (w.heap.size + 3) (w.heap.size + 2) S w u a ps at hg
          have d9 : (x 9) = .bool false := And.left hd
          clear hd
          have cT := blk_cell (o := 0) (v := .string S) hg.bt rfl
          refine ⟨?_⟩
          simp only [putsFrom, Act.put, List.setIfInBounds_toArray, List.set_cons_zero, List.set_cons_succ, Nat.reduceAdd, d9] at hK ⊢
          go_simp
          exact hK.out _ _ (Kp.refl _) rfl
        case sc15 =>
          refine OpStepQ.off 1 1 (by kernel_rfl) (by kernel_rfl) ?_
          intro x u p hp hg hd K hK
          obtain rfl : p = 1 := by omega
          change EachSt w.heap.size (w.heap.size + 1) w.heap.size (w.heap.size + 3) (w.heap.size + 2) S w u a ps at hg
          have d9 : (x 9) = .bool false := And.left hd
          have d14 : (x 14) = .string S := And.left (And.right hd)
          clear hd
          refine ⟨?_⟩
          simp only [putsFrom, Act.put, List.setIfInBounds_toArray, List.set_cons_zero, List.set_cons_succ, Nat.reduceAdd, d9, d14] at hK ⊢
          go_simp
          exact hK.out _ _ (Kp.refl _) rfl
        case sc16 =>
          refine OpStepQ.off 1 1 (by kernel_rfl) (by kernel_rfl) ?_
          intro x u p hp hg hd K hK
          obtain rfl : p = 1 := by omega
          change EachSt w.heap.size (w.heap.size + 1) w.heap.size (w.heap.size + 3) (w.heap.size + 2) S w u a ps at hg
          have d9 : (x 9) = .bool false := And.left hd
          have d13 : (x 13) = .int .i64 (a : Int) := And.left (And.right hd)
          have d15 : (x 15) = .int .i64 (S.size : Int) := And.left (And.right (And.right hd))
          clear hd
          refine ⟨?_⟩
          simp only [putsFrom, Act.put, List.setIfInBounds_toArray, List.set_cons_zero, List.set_cons_succ, Nat.reduceAdd, d9, d13, d15] at hK ⊢
          go_simp
          exact hK.out _ _ (Kp.refl _) rfl
        case sc17 =>
          refine OpStepQ.off 1 1 (by kernel_rfl) (by kernel_rfl) ?_
          intro x u p hp hg hd K hK
          obtain rfl : p = 1 := by omega
          change EachSt w.heap.size (w.heap.size + 1) w.heap.size (w.heap.size + 3) (w.heap.size + 2) S w u a ps at hg
          have d9 : (x 9) = .bool false := And.left hd
          have d16 : (x 16) = .bool false := And.left (And.right hd)
          clear hd
          refine ⟨?_⟩
          simp only [putsFrom, Act.put, List.setIfInBounds_toArray, List.set_cons_zero, List.set_cons_succ, Nat.reduceAdd, d9, d16] at hK ⊢
          go_simp
          exact hK.out _ _ (Kp.refl _) rfl
        intro x u hg he
        have d0 : (x 0) = .string S := And.left he
        have d1 : (x 1) = .int .i64 (S.size : Int) := And.left (And.right he)
        have d2 : (x 2) = .bool false := And.left (And.right (And.right he))
        have d3 : (x 3) = .bool false := And.left (And.right (And.right (And.right he)))
        have d4 : (x 4) = .pointer (some ⟨w.heap.size + 2, 0, none⟩) := And.left (And.right (And.right (And.right (And.right he))))
        have d5 : (x 5) = .func (.func 54) #[] #[.pointer (some ⟨w.heap.size + 1, 0, none⟩), .pointer (some ⟨w.heap.size, 0, none⟩)] := And.left (And.right (And.right (And.right (And.right (And.right he)))))
        have d6 : (x 6) = .bool true := And.left (And.right (And.right (And.right (And.right (And.right (And.right he))))))
        have d7 : (x 7) = .bool false := And.left (And.right (And.right (And.right (And.right (And.right (And.right (And.right he)))))))
        have d8 : (x 8) = .bool false := And.left (And.right (And.right (And.right (And.right (And.right (And.right (And.right (And.right he))))))))
        have d9 : (x 9) = .bool false := And.left (And.right (And.right (And.right (And.right (And.right (And.right (And.right (And.right (And.right he)))))))))
        have d10 : (x 10) = .pointer (some ⟨w.heap.size + 2, 0, none⟩) := And.left (And.right (And.right (And.right (And.right (And.right (And.right (And.right (And.right (And.right (And.right he))))))))))
        have d11 : (x 11) = .pointer (some ⟨w.heap.size + 2, 0, none⟩) := And.left (And.right (And.right (And.right (And.right (And.right (And.right (And.right (And.right (And.right (And.right (And.right he)))))))))))
        have d12 : (x 12) = .pointer (some ⟨w.heap.size + 2, 1, none⟩) := And.left (And.right (And.right (And.right (And.right (And.right (And.right (And.right (And.right (And.right (And.right (And.right (And.right he))))))))))))
        have d13 : (x 13) = .int .i64 (a : Int) := And.left (And.right (And.right (And.right (And.right (And.right (And.right (And.right (And.right (And.right (And.right (And.right (And.right (And.right he)))))))))))))
        have d14 : (x 14) = .string S := And.left (And.right (And.right (And.right (And.right (And.right (And.right (And.right (And.right (And.right (And.right (And.right (And.right (And.right (And.right he))))))))))))))
        have d15 : (x 15) = .int .i64 (S.size : Int) := And.left (And.right (And.right (And.right (And.right (And.right (And.right (And.right (And.right (And.right (And.right (And.right (And.right (And.right (And.right (And.right he)))))))))))))))
        have d16 : (x 16) = .bool false := And.left (And.right (And.right (And.right (And.right (And.right (And.right (And.right (And.right (And.right (And.right (And.right (And.right (And.right (And.right (And.right (And.right he))))))))))))))))
        have d17 : (x 17) = .bool false := And.left (And.right (And.right (And.right (And.right (And.right (And.right (And.right (And.right (And.right (And.right (And.right (And.right (And.right (And.right (And.right (And.right (And.right he)))))))))))))))))
        clear he
        change EachSt w.heap.size (w.heap.size + 1) w.heap.size (w.heap.size + 3) (w.heap.size + 2) S w u a ps at hg
        refine ⟨?_⟩
        simp only [putsFrom, Act.put, List.setIfInBounds_toArray, List.set_cons_zero, List.set_cons_succ, Nat.reduceAdd, d0, d1, d2, d3, d4, d5, d6, d7, d8, d9, d10, d11, d12, d13, d14, d15, d16, d17]
        clear d0 d1 d2 d3 d4 d5 d6 d7 d8 d9 d10 d11 d12 d13 d14 d15 d16 d17
        obtain ⟨v, hbl, hown⟩ := hg.bl
        have cL := blk_cell (o := 0) (v := v) hbl rfl
        have HO := hid hown
        have HB := hid hg.bw
        clear hbl hown hg
        go_wp2
        go_ret2
        exact .inl ⟨ps, v, HV.out, rfl, own_base (by omega) HO.out, HB.out⟩
      · have HV : Hid (partsM S.data.toList = none) := hid (by
          unfold partsM; rw [size_len, if_pos hl, ← rest0, hz]
          cases r with
          | nil => exact absurd rfl h0
          | cons _ _ => rfl)
        have haS : a ≠ S.size := by intro h; apply h0; exact List.eq_nil_of_length_eq_zero (by omega)
        have haI : (a : Int) ≠ (S.size : Int) := by omega
        have e1 : ((a : Int) == (S.size : Int)) = false := by simpa using haI
        have e2 : ((a : Int) != (S.size : Int)) = true := by simpa using haI
        have e3 : (a == S.size) = false := by simpa using haS
        have e4 : (a != S.size) = true := by simpa using haS
        clear hz ha haS haI h0 hrl
        go_enter Try.func47, Try.ntmps47
        go_wp2
        refine wp_region_phase [6] [(0, 0), (0, 0), (0, 0), (0, 0), (0, 0), (0, 0), (0, 0), (1, 1), (1, 1), (1, 1), (1, 1), (1, 1), (1, 1), (1, 1), (1, 1), (1, 1), (1, 1), (1, 1)] (fun _ _ => True) [[], [0], [1], [2], [3], [3], [3, 4, 5], [3, 6], [3, 7], [8], [9], [9, 10], [9, 11], [9, 12], [9], [9, 14], [9, 13, 15], [9, 16]]
          (fun (p : Nat) (x : Nat → Value) (u : World) => match p with | 0 => EachSt w.heap.size (w.heap.size + 1) w.heap.size (w.heap.size + 3) (w.heap.size + 2) S w u 0 [] | _ => EachSt w.heap.size (w.heap.size + 1) w.heap.size (w.heap.size + 3) (w.heap.size + 2) S w u a ps)
          [fun (y : Value) (u : World) => y = (.string S : Value),
           fun (y : Value) (u : World) => y = (.int .i64 (S.size : Int) : Value),
           fun (y : Value) (u : World) => y = (.bool false : Value),
           fun (y : Value) (u : World) => y = (.bool false : Value),
           fun (y : Value) (u : World) => y = (.pointer (some ⟨w.heap.size + 2, 0, none⟩) : Value),
           fun (y : Value) (u : World) => y = (.func (.func 54) #[] #[.pointer (some ⟨w.heap.size + 1, 0, none⟩), .pointer (some ⟨w.heap.size, 0, none⟩)] : Value),
           fun (y : Value) (u : World) => y = (.bool true : Value),
           fun (y : Value) (u : World) => y = (.bool false : Value),
           fun (y : Value) (u : World) => y = (.bool false : Value),
           fun (y : Value) (u : World) => y = (.bool false : Value),
           fun (y : Value) (u : World) => y = (.pointer (some ⟨w.heap.size + 2, 0, none⟩) : Value),
           fun (y : Value) (u : World) => y = (.pointer (some ⟨w.heap.size + 2, 0, none⟩) : Value),
           fun (y : Value) (u : World) => y = (.pointer (some ⟨w.heap.size + 2, 1, none⟩) : Value),
           fun (y : Value) (u : World) => y = (.int .i64 (a : Int) : Value),
           fun (y : Value) (u : World) => y = (.string S : Value),
           fun (y : Value) (u : World) => y = (.int .i64 (S.size : Int) : Value),
           fun (y : Value) (u : World) => y = (.bool true : Value),
           fun (y : Value) (u : World) => y = (.bool true : Value)]
          (by kernel_rfl) (by kernel_rfl) (by kernel_rfl) (by kernel_rfl) (by kernel_rfl) (by kernel_rfl) (fun _ _ _ => trivial) (HS.out.drew) ?hKd ?hXd ⟨fun _ _ _ _ h => h, fun _ _ _ _ h => h, fun _ _ _ _ h => h, fun _ _ _ _ h => h, fun _ _ _ _ h => h, fun _ _ _ _ h => h, fun _ _ _ _ h => h, fun _ _ _ _ h => h, fun _ _ _ _ h => h, fun _ _ _ _ h => h, fun _ _ _ _ h => h, fun _ _ _ _ h => h, fun _ _ _ _ h => h, fun _ _ _ _ h => h, fun _ _ _ _ h => h, fun _ _ _ _ h => h, fun _ _ _ _ h => h, fun _ _ _ _ h => h, trivial⟩ ⟨?sd0, ?sd1, ?sd2, ?sd3, ?sd4, ?sd5, ?sd6, ?sd7, ?sd8, ?sd9, ?sd10, ?sd11, ?sd12, ?sd13, ?sd14, ?sd15, ?sd16, ?sd17, trivial⟩ ?hEd
        case hKd =>
          intro p x w w' hk h
          rcases p with _ | p
          · exact h.step' hk
          · exact h.step' hk
        case hXd =>
          intro p x i v w hi h
          have e0 : upd x i v 6 = x 6 := if_neg (fun hh => hi (by rw [← hh]; decide))
          rcases p with _ | p
          · first | exact h | (simp only [e0]; exact h)
          · first | exact h | (simp only [e0]; exact h)
        case sd0 =>
          refine OpStepQ.off 0 0 (by kernel_rfl) (by kernel_rfl) ?_
          intro x u p hp hg hd K hK
          obtain rfl : p = 0 := by omega
          change EachSt w.heap.size (w.heap.size + 1) w.heap.size (w.heap.size + 3) (w.heap.size + 2) S w u 0 [] at hg
          clear hd
          have cT := blk_cell (o := 0) (v := .string S) hg.bt rfl
          refine ⟨?_⟩
          simp only [putsFrom, Act.put, List.setIfInBounds_toArray, List.set_cons_zero, List.set_cons_succ, Nat.reduceAdd] at hK ⊢
          go_simp
          exact hK.out _ _ (Kp.refl _) rfl
        case sd1 =>
          refine OpStepQ.off 0 0 (by kernel_rfl) (by kernel_rfl) ?_
          intro x u p hp hg hd K hK
          obtain rfl : p = 0 := by omega
          change EachSt w.heap.size (w.heap.size + 1) w.heap.size (w.heap.size + 3) (w.heap.size + 2) S w u 0 [] at hg
          have d0 : (x 0) = .string S := And.left hd
          clear hd
          refine ⟨?_⟩
          simp only [putsFrom, Act.put, List.setIfInBounds_toArray, List.set_cons_zero, List.set_cons_succ, Nat.reduceAdd, d0] at hK ⊢
          go_simp
          exact hK.out _ _ (Kp.refl _) rfl
        case sd2 =>
          refine OpStepQ.off 0 0 (by kernel_rfl) (by kernel_rfl) ?_
          intro x u p hp hg hd K hK
          obtain rfl : p = 0 := by omega
          change EachSt w.heap.size (w.heap.size + 1) w.heap.size (w.heap.size + 3) (w.heap.size + 2) S w u 0 [] at hg
          have d1 : (x 1) = .int .i64 (S.size : Int) := And.left hd
          clear hd
          refine ⟨?_⟩
          simp only [putsFrom, Act.put, List.setIfInBounds_toArray, List.set_cons_zero, List.set_cons_succ, Nat.reduceAdd, d1] at hK ⊢
          go_simp
          exact hK.out _ _ (Kp.refl _) rfl
        case sd3 =>
          refine OpStepQ.off 0 0 (by kernel_rfl) (by kernel_rfl) ?_
          intro x u p hp hg hd K hK
          obtain rfl : p = 0 := by omega
          change EachSt w.heap.size (w.heap.size + 1) w.heap.size (w.heap.size + 3) (w.heap.size + 2) S w u 0 [] at hg
          have d2 : (x 2) = .bool false := And.left hd
          clear hd
          refine ⟨?_⟩
          simp only [putsFrom, Act.put, List.setIfInBounds_toArray, List.set_cons_zero, List.set_cons_succ, Nat.reduceAdd, d2] at hK ⊢
          go_simp
          exact hK.out _ _ (Kp.refl _) rfl
        case sd4 =>
          refine OpStepQ.off 0 0 (by kernel_rfl) (by kernel_rfl) ?_
          intro x u p hp hg hd K hK
          obtain rfl : p = 0 := by omega
          change EachSt w.heap.size (w.heap.size + 1) w.heap.size (w.heap.size + 3) (w.heap.size + 2) S w u 0 [] at hg
          have d3 : (x 3) = .bool false := And.left hd
          clear hd
          refine ⟨?_⟩
          simp only [putsFrom, Act.put, List.setIfInBounds_toArray, List.set_cons_zero, List.set_cons_succ, Nat.reduceAdd, d3] at hK ⊢
          go_simp
          exact hK.out _ _ (Kp.refl _) rfl
        case sd5 =>
          refine OpStepQ.off 0 0 (by kernel_rfl) (by kernel_rfl) ?_
          intro x u p hp hg hd K hK
          obtain rfl : p = 0 := by omega
          change EachSt w.heap.size (w.heap.size + 1) w.heap.size (w.heap.size + 3) (w.heap.size + 2) S w u 0 [] at hg
          have d3 : (x 3) = .bool false := And.left hd
          clear hd
          refine ⟨?_⟩
          simp only [putsFrom, Act.put, List.setIfInBounds_toArray, List.set_cons_zero, List.set_cons_succ, Nat.reduceAdd, d3] at hK ⊢
          go_simp
          exact hK.out _ _ (Kp.refl _) rfl
        case sd6 =>
          refine OpStepQ.on 0 (by kernel_rfl) (by kernel_rfl) ?_
          intro x u hg hd K hK
          change EachSt w.heap.size (w.heap.size + 1) w.heap.size (w.heap.size + 3) (w.heap.size + 2) S w u 0 [] at hg
          have d3 : (x 3) = .bool false := And.left hd
          have d4 : (x 4) = .pointer (some ⟨w.heap.size + 2, 0, none⟩) := And.left (And.right hd)
          have d5 : (x 5) = .func (.func 54) #[] #[.pointer (some ⟨w.heap.size + 1, 0, none⟩), .pointer (some ⟨w.heap.size, 0, none⟩)] := And.left (And.right (And.right hd))
          clear hd
          refine ⟨?_⟩
          simp only [putsFrom, Act.put, List.setIfInBounds_toArray, List.set_cons_zero, List.set_cons_succ, Nat.reduceAdd, d3, d4, d5] at hK ⊢
          go_simp
          go_at_call 55
          have hc := ((HF.out u w _ _ _ _ _ S 0 hg (Nat.zero_le _) hS (by omega)).mono fun _ _ h => h.yes HZ.out)
          refine hc.mono ?_
          clear hc
          rintro e u' ⟨rfl, hE⟩
          dsimp only
          exact hK.out _ _ trivial (by rw [HA.out] at hE; exact hE) rfl
        case sd7 =>
          refine OpStepQ.off 1 1 (by kernel_rfl) (by kernel_rfl) ?_
          intro x u p hp hg hd K hK
          obtain rfl : p = 1 := by omega
          change EachSt w.heap.size (w.heap.size + 1) w.heap.size (w.heap.size + 3) (w.heap.size + 2) S w u a ps at hg
          have d3 : (x 3) = .bool false := And.left hd
          have d6 : (x 6) = .bool true := And.left (And.right hd)
          clear hd
          refine ⟨?_⟩
          simp only [putsFrom, Act.put, List.setIfInBounds_toArray, List.set_cons_zero, List.set_cons_succ, Nat.reduceAdd, d3, d6] at hK ⊢
          go_simp
          exact hK.out _ _ (Kp.refl _) rfl
        case sd8 =>
          refine OpStepQ.off 1 1 (by kernel_rfl) (by kernel_rfl) ?_
          intro x u p hp hg hd K hK
          obtain rfl : p = 1 := by omega
          change EachSt w.heap.size (w.heap.size + 1) w.heap.size (w.heap.size + 3) (w.heap.size + 2) S w u a ps at hg
          have d3 : (x 3) = .bool false := And.left hd
          have d7 : (x 7) = .bool false := And.left (And.right hd)
          clear hd
          refine ⟨?_⟩
          simp only [putsFrom, Act.put, List.setIfInBounds_toArray, List.set_cons_zero, List.set_cons_succ, Nat.reduceAdd, d3, d7] at hK ⊢
          go_simp
          exact hK.out _ _ (Kp.refl _) rfl
        case sd9 =>
          refine OpStepQ.off 1 1 (by kernel_rfl) (by kernel_rfl) ?_
          intro x u p hp hg hd K hK
          obtain rfl : p = 1 := by omega
          change EachSt w.heap.size (w.heap.size + 1) w.heap.size (w.heap.size + 3) (w.heap.size + 2) S w u a ps at hg
          have d8 : (x 8) = .bool false := And.left hd
          clear hd
          refine ⟨?_⟩
          simp only [putsFrom, Act.put, List.setIfInBounds_toArray, List.set_cons_zero, List.set_cons_succ, Nat.reduceAdd, d8] at hK ⊢
          go_simp
          exact hK.out _ _ (Kp.refl _) rfl
        case sd10 =>
          refine OpStepQ.off 1 1 (by kernel_rfl) (by kernel_rfl) ?_
          intro x u p hp hg hd K hK
          obtain rfl : p = 1 := by omega
          change EachSt w.heap.size (w.heap.size + 1) w.heap.size (w.heap.size + 3) (w.heap.size + 2) S w u a ps at hg
          have d9 : (x 9) = .bool false := And.left hd
          clear hd
          refine ⟨?_⟩
          simp only [putsFrom, Act.put, List.setIfInBounds_toArray, List.set_cons_zero, List.set_cons_succ, Nat.reduceAdd, d9] at hK ⊢
          go_simp
          exact hK.out _ _ (Kp.refl _) rfl
        case sd11 =>
          refine OpStepQ.off 1 1 (by kernel_rfl) (by kernel_rfl) ?_
          intro x u p hp hg hd K hK
          obtain rfl : p = 1 := by omega
          change EachSt w.heap.size (w.heap.size + 1) w.heap.size (w.heap.size + 3) (w.heap.size + 2) S w u a ps at hg
          have d9 : (x 9) = .bool false := And.left hd
          have d10 : (x 10) = .pointer (some ⟨w.heap.size + 2, 0, none⟩) := And.left (And.right hd)
          clear hd
          refine ⟨?_⟩
          simp only [putsFrom, Act.put, List.setIfInBounds_toArray, List.set_cons_zero, List.set_cons_succ, Nat.reduceAdd, d9, d10] at hK ⊢
          go_simp
          exact hK.out _ _ (Kp.refl _) rfl
        case sd12 =>
          refine OpStepQ.off 1 1 (by kernel_rfl) (by kernel_rfl) ?_
          intro x u p hp hg hd K hK
          obtain rfl : p = 1 := by omega
          change EachSt w.heap.size (w.heap.size + 1) w.heap.size (w.heap.size + 3) (w.heap.size + 2) S w u a ps at hg
          have d9 : (x 9) = .bool false := And.left hd
          have d11 : (x 11) = .pointer (some ⟨w.heap.size + 2, 0, none⟩) := And.left (And.right hd)
          clear hd
          refine ⟨?_⟩
          simp only [putsFrom, Act.put, List.setIfInBounds_toArray, List.set_cons_zero, List.set_cons_succ, Nat.reduceAdd, d9, d11] at hK ⊢
          go_simp
          exact hK.out _ _ (Kp.refl _) rfl
        case sd13 =>
          refine OpStepQ.off 1 1 (by kernel_rfl) (by kernel_rfl) ?_
          intro x u p hp hg hd K hK
          obtain rfl : p = 1 := by omega
          change EachSt w.heap.size (w.heap.size + 1) w.heap.size (w.heap.size + 3) (w.heap.size + 2) S w u a ps at hg
          have d9 : (x 9) = .bool false := And.left hd
          have d12 : (x 12) = .pointer (some ⟨w.heap.size + 2, 1, none⟩) := And.left (And.right hd)
          clear hd
          have c1 := hg.rd.c1
          refine ⟨?_⟩
          simp only [putsFrom, Act.put, List.setIfInBounds_toArray, List.set_cons_zero, List.set_cons_succ, Nat.reduceAdd, d9, d12] at hK ⊢
          go_simp
          exact hK.out _ _ (Kp.refl _) rfl
        case sd14 =>
          refine OpStepQ.off 1 1 (by kernel_rfl) (by kernel_rfl) ?_
          intro x u p hp hg hd K hK
          obtain rfl : p = 1 := by omega
          change EachSt w.heap.size (w.heap.size + 1) w.heap.size (w.heap.size + 3) (w.heap.size + 2) S w u a ps at hg
          have d9 : (x 9) = .bool false := And.left hd
          clear hd
          have cT := blk_cell (o := 0) (v := .string S) hg.bt rfl
          refine ⟨?_⟩
          simp only [putsFrom, Act.put, List.setIfInBounds_toArray, List.set_cons_zero, List.set_cons_succ, Nat.reduceAdd, d9] at hK ⊢
          go_simp
          exact hK.out _ _ (Kp.refl _) rfl
        case sd15 =>
          refine OpStepQ.off 1 1 (by kernel_rfl) (by kernel_rfl) ?_
          intro x u p hp hg hd K hK
          obtain rfl : p = 1 := by omega
          change EachSt w.heap.size (w.heap.size + 1) w.heap.size (w.heap.size + 3) (w.heap.size + 2) S w u a ps at hg
          have d9 : (x 9) = .bool false := And.left hd
          have d14 : (x 14) = .string S := And.left (And.right hd)
          clear hd
          refine ⟨?_⟩
          simp only [putsFrom, Act.put, List.setIfInBounds_toArray, List.set_cons_zero, List.set_cons_succ, Nat.reduceAdd, d9, d14] at hK ⊢
          go_simp
          exact hK.out _ _ (Kp.refl _) rfl
        case sd16 =>
          refine OpStepQ.off 1 1 (by kernel_rfl) (by kernel_rfl) ?_
          intro x u p hp hg hd K hK
          obtain rfl : p = 1 := by omega
          change EachSt w.heap.size (w.heap.size + 1) w.heap.size (w.heap.size + 3) (w.heap.size + 2) S w u a ps at hg
          have d9 : (x 9) = .bool false := And.left hd
          have d13 : (x 13) = .int .i64 (a : Int) := And.left (And.right hd)
          have d15 : (x 15) = .int .i64 (S.size : Int) := And.left (And.right (And.right hd))
          clear hd
          refine ⟨?_⟩
          simp only [putsFrom, Act.put, List.setIfInBounds_toArray, List.set_cons_zero, List.set_cons_succ, Nat.reduceAdd, d9, d13, d15] at hK ⊢
          go_simp
          exact hK.out _ _ (Kp.refl _) rfl
        case sd17 =>
          refine OpStepQ.off 1 1 (by kernel_rfl) (by kernel_rfl) ?_
          intro x u p hp hg hd K hK
          obtain rfl : p = 1 := by omega
          change EachSt w.heap.size (w.heap.size + 1) w.heap.size (w.heap.size + 3) (w.heap.size + 2) S w u a ps at hg
          have d9 : (x 9) = .bool false := And.left hd
          have d16 : (x 16) = .bool true := And.left (And.right hd)
          clear hd
          refine ⟨?_⟩
          simp only [putsFrom, Act.put, List.setIfInBounds_toArray, List.set_cons_zero, List.set_cons_succ, Nat.reduceAdd, d9, d16] at hK ⊢
          go_simp
          exact hK.out _ _ (Kp.refl _) rfl
        intro x u hg he
        have d0 : (x 0) = .string S := And.left he
        have d1 : (x 1) = .int .i64 (S.size : Int) := And.left (And.right he)
        have d2 : (x 2) = .bool false := And.left (And.right (And.right he))
        have d3 : (x 3) = .bool false := And.left (And.right (And.right (And.right he)))
        have d4 : (x 4) = .pointer (some ⟨w.heap.size + 2, 0, none⟩) := And.left (And.right (And.right (And.right (And.right he))))
        have d5 : (x 5) = .func (.func 54) #[] #[.pointer (some ⟨w.heap.size + 1, 0, none⟩), .pointer (some ⟨w.heap.size, 0, none⟩)] := And.left (And.right (And.right (And.right (And.right (And.right he)))))
        have d6 : (x 6) = .bool true := And.left (And.right (And.right (And.right (And.right (And.right (And.right he))))))
        have d7 : (x 7) = .bool false := And.left (And.right (And.right (And.right (And.right (And.right (And.right (And.right he)))))))
        have d8 : (x 8) = .bool false := And.left (And.right (And.right (And.right (And.right (And.right (And.right (And.right (And.right he))))))))
        have d9 : (x 9) = .bool false := And.left (And.right (And.right (And.right (And.right (And.right (And.right (And.right (And.right (And.right he)))))))))
        have d10 : (x 10) = .pointer (some ⟨w.heap.size + 2, 0, none⟩) := And.left (And.right (And.right (And.right (And.right (And.right (And.right (And.right (And.right (And.right (And.right he))))))))))
        have d11 : (x 11) = .pointer (some ⟨w.heap.size + 2, 0, none⟩) := And.left (And.right (And.right (And.right (And.right (And.right (And.right (And.right (And.right (And.right (And.right (And.right he)))))))))))
        have d12 : (x 12) = .pointer (some ⟨w.heap.size + 2, 1, none⟩) := And.left (And.right (And.right (And.right (And.right (And.right (And.right (And.right (And.right (And.right (And.right (And.right (And.right he))))))))))))
        have d13 : (x 13) = .int .i64 (a : Int) := And.left (And.right (And.right (And.right (And.right (And.right (And.right (And.right (And.right (And.right (And.right (And.right (And.right (And.right he)))))))))))))
        have d14 : (x 14) = .string S := And.left (And.right (And.right (And.right (And.right (And.right (And.right (And.right (And.right (And.right (And.right (And.right (And.right (And.right (And.right he))))))))))))))
        have d15 : (x 15) = .int .i64 (S.size : Int) := And.left (And.right (And.right (And.right (And.right (And.right (And.right (And.right (And.right (And.right (And.right (And.right (And.right (And.right (And.right (And.right he)))))))))))))))
        have d16 : (x 16) = .bool true := And.left (And.right (And.right (And.right (And.right (And.right (And.right (And.right (And.right (And.right (And.right (And.right (And.right (And.right (And.right (And.right (And.right he))))))))))))))))
        have d17 : (x 17) = .bool true := And.left (And.right (And.right (And.right (And.right (And.right (And.right (And.right (And.right (And.right (And.right (And.right (And.right (And.right (And.right (And.right (And.right (And.right he)))))))))))))))))
        clear he
        change EachSt w.heap.size (w.heap.size + 1) w.heap.size (w.heap.size + 3) (w.heap.size + 2) S w u a ps at hg
        refine ⟨?_⟩
        simp only [putsFrom, Act.put, List.setIfInBounds_toArray, List.set_cons_zero, List.set_cons_succ, Nat.reduceAdd, d0, d1, d2, d3, d4, d5, d6, d7, d8, d9, d10, d11, d12, d13, d14, d15, d16, d17]
        clear d0 d1 d2 d3 d4 d5 d6 d7 d8 d9 d10 d11 d12 d13 d14 d15 d16 d17
        have HB := hid hg.bw
        clear hg
        go_wp2
        go_ret2
        exact .inr ⟨HV.out, rfl, HB.out⟩
  · have h2 : decide (100 < S.size) = true := decide_eq_true (by omega)
    have h3 : decide ((100 : Int) < (S.size : Int)) = true := decide_eq_true (by omega)
    have HV : Hid (partsM S.data.toList = none) := hid (by unfold partsM; rw [size_len, if_neg hl])
    have cT : (((w.alloc (.cells #[.string S] 9)).alloc (.cells #[.slice none 0 0] 56)).alloc (.cells #[.string S, .int .i64 0] 74)).cell? ⟨w.heap.size, 0, none⟩ = some (.string S) := blk_cell (parts_start w S).bt rfl
    have HB : Hid (Kp w (((w.alloc (.cells #[.string S] 9)).alloc (.cells #[.slice none 0 0] 56)).alloc (.cells #[.string S, .int .i64 0] 74))) := hid (((Kp.refl w).alloc _ |>.alloc _).alloc _)
    go_enter Try.func47, Try.ntmps47
    go_wp2
    go_quiet (fail)
    go_wp2
    go_ret2
    exact .inr ⟨HV.out, rfl, HB.out.drewN _⟩
/-! ### Params, Result -/
theorem PartsP.no {w : World} {o : Option (List Bs)} {e : Ending} {w' : World} (h : PartsP w o e w') (ho : o = none) : e = .returned (.tuple #[.slice none 0 0, .int .i64 9]) ∧ Kp w w' := by
  rcases h with ⟨_, _, h1, _⟩ | ⟨_, h⟩
  · rw [ho] at h1; cases h1
  · exact h
theorem PartsP.yes {w : World} {o : Option (List Bs)} {ps : List Bs} {e : Ending} {w' : World} (h : PartsP w o e w') (ho : o = some ps) : ∃ v, e = .returned (.tuple #[v, .int .i64 0]) ∧ OwnS w' w.heap.size v (ps.map bsB) ∧ Kp w w' := by
  rcases h with ⟨_, v, h1, h2⟩ | ⟨h1, _⟩
  · rw [ho] at h1; cases h1; exact ⟨v, h2⟩
  · rw [ho] at h1; cases h1
/-- A slice that reads as texts. -/
def RdS (w : World) (v : Value) (l : List ByteArray) : Prop := ∃ A c, v = .slice A l.length c ∧ l.length ≤ c ∧ ∀ i x, l[i]? = some x → ∃ b off, A = some ⟨b, off, none⟩ ∧ b < w.heap.size ∧ w.cell? ⟨b, off + i, none⟩ = some (.string x)
theorem RdS.kp {w w' : World} {v : Value} {l : List ByteArray} (h : RdS w v l) (hk : Kp w w') : RdS w' v l := by
  obtain ⟨A, c, h1, h2, h3⟩ := h
  refine ⟨A, c, h1, h2, fun i x hi => ?_⟩
  obtain ⟨b, off, e, hb, hc⟩ := h3 i x hi
  exact ⟨b, off, e, Nat.lt_of_lt_of_le hb hk.le, cell_kp hk hb hc⟩
theorem OwnS.form {w : World} {base : Nat} {v : Value} {l : List ByteArray} (h : OwnS w base v l) (h0 : 0 < l.length) : ∃ g c, v = .slice (some ⟨g, 0, none⟩) l.length c ∧ base ≤ g ∧ g < w.heap.size ∧ l.length ≤ c ∧ ∀ i x, l[i]? = some x → w.cell? ⟨g, i, none⟩ = some (.string x) := by
  rcases h.2 with ⟨_, h1⟩ | ⟨g, cap, cur, rfl, hg, hh, hnc, _, hsz, htk⟩
  · omega
  · refine ⟨g, cap, rfl, hg, blk_lt hh, hnc, fun i x hi => ?_⟩
    have hil : i < l.length := by
      rcases Nat.lt_or_ge i l.length with h | h
      · exact h
      · rw [List.getElem?_eq_none h] at hi; cases hi
    refine blk_cell hh ?_
    have h3 : cur.toList[i]? = (l.map Value.string)[i]? := by rw [← htk, List.getElem?_take, if_pos (by omega)]
    rw [Array.getElem?_toList] at h3
    rw [h3, List.getElem?_map, hi]; rfl
def ParamsP (w : World) (o : Option (List Bs)) (e : Ending) (w' : World) : Prop :=
  (∃ ps q v, o = some (ps ++ [q]) ∧ e = .returned (.tuple #[v, .int .i64 0]) ∧ OwnS w' w.heap.size v (ps.map bsB) ∧ Kp w w' ∧ v ≠ .slice none 0 0) ∨ (o = none ∧ e = .returned (.tuple #[.slice none 0 0, .int .i64 9]) ∧ Kp w w')
def ResultP (w : World) (o : Option (List Bs)) (e : Ending) (w' : World) : Prop :=
  (∃ ps q, o = some (ps ++ [q]) ∧ e = .returned (.tuple #[.string (bsB q), .int .i64 0]) ∧ Kp w w') ∨ (o = none ∧ e = .returned (.tuple #[.string ⟨#[]⟩, .int .i64 9]) ∧ Kp w w')
theorem OwnS.init {w : World} {base g c : Nat} {ps : List ByteArray} {q : ByteArray} (h : OwnS w base (.slice (some ⟨g, 0, none⟩) (ps.length + 1) c) (ps ++ [q])) : OwnS w base (.slice (some ⟨g, 0, none⟩) ps.length c) ps := by
  unfold OwnS at h ⊢
  obtain ⟨h1, h2⟩ := h
  rcases h2 with ⟨h2, _⟩ | ⟨g', cap, cur, hv, hg, hh, hnc, hz, hsz, htk⟩
  · cases h2
  · injection hv with a1 a2 a3
    injection a1 with a1
    injection a1 with a1
    subst a1; subst a3
    rw [List.length_append, List.length_singleton] at hnc htk
    refine ⟨by simp, .inr ⟨g, c, cur, rfl, hg, hh, by omega, hz, hsz, ?_⟩⟩
    have e : (cur.toList.take ((ps.length + 1) * 1)).take (ps.length * 1) = (((ps ++ [q]).map Value.string)).take (ps.length * 1) := by rw [htk]
    rw [List.take_take, Nat.min_eq_left (by omega)] at e
    rw [e, List.map_append, Nat.mul_one]
    exact List.take_left' (by simp)
set_option maxRecDepth 20000 in
set_option maxHeartbeats 1000000 in
theorem params_any (w : World) (S : ByteArray) (hS : S.size ≤ 140737488351232) : Calls Try.prog 35 #[.string S] w (ParamsP w (partsM S.data.toList)) := by
  cases hz : partsM S.data.toList with
  | none =>
    have HZ := hid hz
    clear hz
    go_enter Try.func35, Try.ntmps35
    go_wp2_with (go_at_call 47; go_must (refine ((parts_any _ S hS).mono fun _ _ h => h.no HZ.out).mono ?_); rintro e w1 ⟨rfl, hk⟩)
    go_ret2
    exact .inr ⟨rfl, rfl, hk⟩
  | some qs =>
    obtain ⟨ps, q, hqs, _⟩ := parts_back hz
    have HZ := hid hz
    have HQ := hid hqs
    clear hz hqs
    go_enter Try.func35, Try.ntmps35
    go_wp2_with fail
    refine ((parts_any _ S hS).mono fun _ _ h => h.yes HZ.out).mono ?_
    rintro e w1 ⟨v, rfl, hown, hk⟩
    rw [HQ.out, List.map_append, List.map_singleton] at hown
    obtain ⟨g, c, hv, hg, hgl, hlc, hcell⟩ := hown.form (by simp)
    have hlen : (ps.map bsB ++ [bsB q]).length = ps.length + 1 := by simp
    rw [hlen] at hv hlc
    subst hv
    have HO := hid hown
    have HK := hid hk
    have i1 : ((ps.length : Int) + 1 - 1).toNat = ps.length := by omega
    have i2 : (0 : Int) ≤ (ps.length : Int) := by omega
    have i3 : (ps.length : Int) ≤ (c : Int) := by omega
    clear hown hk hcell hlen
    go_wp2
    go_ret2
    exact .inl ⟨ps, q, _, HQ.out ▸ rfl, rfl, (show OwnS _ _ _ (ps.map bsB) from by have := OwnS.init (ps := ps.map bsB) (q := bsB q) (g := g) (c := c) (by have := HO.out; rw [List.length_map]; exact this); rw [List.length_map] at this; exact this), HK.out, by simp⟩
set_option maxRecDepth 20000 in
set_option maxHeartbeats 1000000 in
theorem result_any (w : World) (S : ByteArray) (hS : S.size ≤ 140737488351232) : Calls Try.prog 40 #[.string S] w (ResultP w (partsM S.data.toList)) := by
  cases hz : partsM S.data.toList with
  | none =>
    have HZ := hid hz
    clear hz
    go_enter Try.func40, Try.ntmps40
    go_wp2_with (go_at_call 47; go_must (refine ((parts_any _ S hS).mono fun _ _ h => h.no HZ.out).mono ?_); rintro e w1 ⟨rfl, hk⟩)
    go_ret2
    exact .inr ⟨rfl, rfl, hk⟩
  | some qs =>
    obtain ⟨ps, q, hqs, _⟩ := parts_back hz
    have HZ := hid hz
    have HQ := hid hqs
    clear hz hqs
    go_enter Try.func40, Try.ntmps40
    go_wp2_with fail
    refine ((parts_any _ S hS).mono fun _ _ h => h.yes HZ.out).mono ?_
    rintro e w1 ⟨v, rfl, hown, hk⟩
    rw [HQ.out, List.map_append, List.map_singleton] at hown
    obtain ⟨g, c, hv, hg, hgl, hlc, hcell⟩ := hown.form (by simp)
    have hlen : (ps.map bsB ++ [bsB q]).length = ps.length + 1 := by simp
    rw [hlen] at hv hlc
    subst hv
    have c1 := hcell ps.length (bsB q) (by rw [List.getElem?_append_right (by simp)]; simp)
    have HK := hid hk
    have i1 : ((ps.length : Int) + 1 - 1).toNat = ps.length := by omega
    have i2 : (0 : Int) ≤ (ps.length : Int) := by omega
    have i3 : (ps.length : Int) ≤ (c : Int) := by omega
    clear hown hk hcell hlen
    go_wp2
    go_ret2
    exact .inl ⟨ps, q, HQ.out ▸ rfl, rfl, HK.out⟩
end Go.Proofs.Ytmcidhjcimjeiaa
