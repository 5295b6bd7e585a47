/-
  The law TypesFitting answers true for all pairs of texts. No condition.
-/
import Derived.SizedLaws
import Derived.Deep.CondSized
import Derived.Test.YtmcidhjcimjeiaaRows
import Derived.Test.YtmcidhjcimjeiaaTypesF
namespace Go.Proofs.Ytmcidhjcimjeiaa.typesFitting
open Go.ChangeShapes Go.WideShapes Go.ChangeAt Go.RowKit
open Go.ChangeMaps (open_string shut_string)
set_option linter.unusedVariables false

theorem own : ownKnob Try.prog.godebug = none := by kernel_rfl
theorem laidOut : laidOutB Try.prog = true := by kernel_rfl


theorem c1 : validB [91, 93, 105, 110, 116] = true := by decide +kernel
theorem c2 : fitsB [98, 111, 111, 108] [97, 110, 121] = false := by decide +kernel
theorem c3 : validB [110, 105, 108] = false := by decide +kernel
theorem fits_self (t : Bs) : fitsB t t = validB t := by
  unfold fitsB
  by_cases h : t = bNil
  · subst h; decide +kernel
  · rw [beq_eq_false_iff_ne.2 h, if_neg (by decide)]
    by_cases h2 : t = bAny
    · subst h2; decide +kernel
    · rw [beq_eq_false_iff_ne.2 h2]; simp
theorem nilly_zero (t : Bs) (h : validB t = true) : nillyB t = (zeroK t == 4) := by
  rcases valid_cases h with h1 | ⟨s, rfl⟩
  · simp only [tyWords, List.mem_cons, List.not_mem_nil, or_false] at h1
    rcases h1 with rfl | rfl | rfl | rfl | rfl | rfl <;> decide +kernel
  · unfold nillyB; rw [h]
    have e1 : ((bFunc ++ s) == bInt) = false := by simp [bFunc, bInt]
    have e2 : ((bFunc ++ s) == bBool) = false := by simp [bFunc, bBool]
    have e3 : ((bFunc ++ s) == bString) = false := by simp [bFunc, bString]
    unfold zeroK
    rw [e1, e2, e3]
    simp [bFunc]
theorem fits_nil (t : Bs) : fitsB [110, 105, 108] t = nillyB t := rfl
theorem comp_symm (a b : Bs) : comparesB a b = comparesB b a := by
  unfold comparesB
  by_cases h1 : a = bNil
  · by_cases h2 : b = bNil
    · subst h1; subst h2; rfl
    · rw [beq_eq_false_iff_ne.2 h2, h1]; rfl
  · by_cases h2 : b = bNil
    · rw [beq_eq_false_iff_ne.2 h1, h2]; rfl
    · rw [beq_eq_false_iff_ne.2 h1, beq_eq_false_iff_ne.2 h2]
      by_cases h : a = b
      · subst h; rfl
      · rw [beq_eq_false_iff_ne.2 h, beq_eq_false_iff_ne.2 (Ne.symm h)]; rfl
theorem fits_only (a b : Bs) (h : fitsB a b = true) : b = bAny ∨ a = bNil ∨ a = b := by
  unfold fitsB at h
  by_cases h1 : a = bNil
  · exact .inr (.inl h1)
  · rw [beq_eq_false_iff_ne.2 h1, if_neg (by decide)] at h
    split at h
    · rename_i h2; simp at h2; exact .inl h2.1
    · simp at h; exact .inr (.inr h.1)
set_option maxRecDepth 20000 in
set_option maxHeartbeats 4000000 in
theorem walk (a0 : ByteArray) (a1 : ByteArray) (w : World) (w0 : a0.size ≤ 140737488351232) (w1 : a1.size ≤ 140737488351232) :
    Calls Try.prog 12 #[.string a0, .string a1] w fun e w' => e = .returned (.bool true) ∧ Kp w w' := by
  have hS := w0; have hT := w1
  clear w0 w1
  have hni := @fits_any
  have hva := @valid_any
  have hco := @compares_any
  have HFI := hid hni; have HVA := hid hva; have HCO := hid hco
  clear hni hva hco
  have q1 : validB (⟨#[91, 93, 105, 110, 116]⟩ : ByteArray).data.toList = true := c1
  have q2 : fitsB (⟨#[98, 111, 111, 108]⟩ : ByteArray).toList (⟨#[97, 110, 121]⟩ : ByteArray).toList = false := by rw [tl_eq, tl_eq]; exact c2
  have Q1 := hid q1; have Q2 := hid q2
  obtain ⟨v, hv⟩ : ∃ v, validB a0.data.toList = v := ⟨_, rfl⟩
  have HV := hid hv
  have hf : fitsB a0.toList a0.toList = v := by rw [fits_self, tl_eq, hv]
  have HF := hid hf
  have hcs := comp_symm a0.toList a1.toList
  obtain ⟨c, hc⟩ : ∃ c, comparesB a1.toList a0.toList = c := ⟨_, rfl⟩
  rw [hc] at hcs
  have HC1 := hid hcs; have HC2 := hid hc
  obtain ⟨g, hg⟩ : ∃ g, fitsB a0.toList a1.toList = g := ⟨_, rfl⟩
  have HG := hid hg
  have hfo := fits_only a0.toList a1.toList
  rw [hg] at hfo
  obtain ⟨x1, e1⟩ : ∃ b, (a1.toList == [97, 110, 121]) = b := ⟨_, rfl⟩
  obtain ⟨x2, e2⟩ : ∃ b, (a0.toList == [110, 105, 108]) = b := ⟨_, rfl⟩
  obtain ⟨x3, e3⟩ : ∃ b, (a0.toList == a1.toList) = b := ⟨_, rfl⟩
  have hx : g = true → (x1 || (x2 || x3)) = true := by
    intro h
    rw [← e1, ← e2, ← e3]
    rcases hfo h with h | h | h
    · rw [h]; rfl
    · rw [h]; simp [bNil]
    · rw [h]; simp
  have hend : ∀ (W : World) (Q : Exit → Act → World → Prop), True := fun _ _ => trivial
  clear q1 q2 hf hcs hc hg hfo hend
  have H1 := hid e1; have H2 := hid e2; have H3 := hid e3
  clear e1 e2 e3
  cases v with
  | false =>
    have hz : zeroE a0.toList = .returned (.tuple #[.agg #[.int .i64 0, .int .i64 0, .string ⟨#[]⟩, .slice none 0 0], .int .i64 9]) := by unfold zeroE; rw [tl_eq, hv]; rfl
    have HZ := hid hz
    clear hz hv
    go_enter Try.func12, Try.ntmps12
    go_wp2_with fail
    refine (HVA.out _ _ (by decide)).mono ?_
    rintro e w1 ⟨rfl, k1⟩
    rw [Q1.out]
    go_wp2_with fail
    refine (HFI.out _ _ _ (by decide) (by decide)).mono ?_
    rintro e w2 ⟨rfl, k2⟩
    rw [Q2.out]
    go_wp2_with fail
    refine (zero_any _ a0 hS).mono ?_
    rintro e w3 ⟨rfl, k3⟩
    rw [HZ.out]
    go_wp2_with fail
    refine (HVA.out _ a0 hS).mono ?_
    rintro e w4 ⟨rfl, k4⟩
    rw [HV.out]
    go_wp2_with fail
    refine (HFI.out _ _ _ hS hS).mono ?_
    rintro e w5 ⟨rfl, k5⟩
    rw [HF.out]
    go_wp2_with fail
    refine (HVA.out _ a0 hS).mono ?_
    rintro e w6 ⟨rfl, k6⟩
    rw [HV.out]
    go_wp2_with fail
    go_quiet (fail)
    have HK : Hid (Kp w (w6.drewN nq)) := hid (((((((k1.trans k2).trans k3).alloc _).trans k4).trans k5).trans k6).drewN _)
    generalize w6.drewN nq = w7 at *
    clear k1 k2 k3 k4 k5 k6
    go_wp2_with fail
    refine (HCO.out _ _ _ hS hT).mono ?_
    rintro e w8 ⟨rfl, k8⟩
    rw [HC1.out]
    go_wp2_with fail
    refine (HCO.out _ _ _ hT hS).mono ?_
    rintro e w9 ⟨rfl, k9⟩
    rw [HC2.out]
    have e0 : (c == c) = true := beq_self_eq_true c
    go_wp2_with fail
    refine (HFI.out _ _ _ hS hT).mono ?_
    rintro e w10 ⟨rfl, k10⟩
    rw [HG.out]
    have HK2 : Hid (Kp w w10) := hid (((HK.out.trans k8).trans k9).trans k10)
    have e1 := H1.out; have e2 := H2.out; have e3 := H3.out
    clear k8 k9 k10 e0
    cases g
    · go_wp2
      go_ret
      exact ⟨rfl, HK2.out⟩
    · have hx := hx rfl
      cases x1 <;> cases x2 <;> cases x3
      · cases hx
      all_goals
        go_wp2
        go_ret
        exact ⟨rfl, HK2.out⟩
  | true =>
    obtain ⟨k, hk⟩ : ∃ k, zeroK a0.toList = k := ⟨_, rfl⟩
    have hz : zeroE a0.toList = .returned (.tuple #[.agg #[.int .i64 k, .int .i64 0, .string ⟨#[]⟩, .slice none 0 0], .int .i64 0]) := by unfold zeroE; rw [tl_eq, hv, ← tl_eq, hk]; rfl
    have HZ := hid hz
    obtain ⟨n, hn⟩ : ∃ n, (k == 4) = n := ⟨_, rfl⟩
    have hni : fitsB (⟨#[110, 105, 108]⟩ : ByteArray).toList a0.toList = n := by
      rw [tl_eq ⟨_⟩, ← hn, ← hk, ← nilly_zero a0.toList (by rw [tl_eq]; exact hv)]; rfl
    have HN := hid hn
    have HNI := hid hni
    clear hz hv hk hn hni
    go_enter Try.func12, Try.ntmps12
    go_wp2_with fail
    refine (HVA.out _ _ (by decide)).mono ?_
    rintro e w1 ⟨rfl, k1⟩
    rw [Q1.out]
    go_wp2_with fail
    refine (HFI.out _ _ _ (by decide) (by decide)).mono ?_
    rintro e w2 ⟨rfl, k2⟩
    rw [Q2.out]
    go_wp2_with fail
    refine (zero_any _ a0 hS).mono ?_
    rintro e w3 ⟨rfl, k3⟩
    rw [HZ.out]
    go_wp2_with fail
    refine (HVA.out _ a0 hS).mono ?_
    rintro e w4 ⟨rfl, k4⟩
    rw [HV.out]
    go_wp2_with fail
    refine (HFI.out _ _ _ hS hS).mono ?_
    rintro e w5 ⟨rfl, k5⟩
    rw [HF.out]
    go_wp2_with fail
    refine (HVA.out _ a0 hS).mono ?_
    rintro e w6 ⟨rfl, k6⟩
    rw [HV.out]
    have hk4 := (k4.trans k5).trans k6
    have cK : w6.cell? ⟨w3.heap.size, 0, none⟩ = some (.int .i64 k) := cell_kp hk4 (by simp) (by simp)
    have hlt : w3.heap.size < w6.heap.size := by have := hk4.le; simp at this; omega
    have CK := hid cK
    have HK : Hid (Kp w w6) := hid (((((k1.trans k2).trans k3).alloc _).trans hk4))
    clear k1 k2 k3 k4 k5 k6 hk4 cK
    go_wp2_with fail
    refine wp_region_kp [[], [0], [1], [2], [2, 3], [2], [2, 5], [2, 6], [2, 4, 7], [2, 8]] (fun u => Kp w6 u)
      [fun (y : Value) (u : World) => y = (.int .i64 0 : Value),
       fun (y : Value) (u : World) => y = (.bool true : Value),
       fun (y : Value) (u : World) => y = (.bool true : Value),
       fun (y : Value) (u : World) => y = (.string a0 : Value),
       fun (y : Value) (u : World) => y = (.bool n : Value),
       fun (y : Value) (u : World) => y = (.pointer (some ⟨w3.heap.size, 0, none⟩) : Value),
       fun (y : Value) (u : World) => y = (.int .i64 k : Value),
       fun (y : Value) (u : World) => y = (.bool n : Value),
       fun (y : Value) (u : World) => y = (.bool false : Value),
       fun (y : Value) (u : World) => y = (.bool false : Value)]
      (by kernel_rfl) (by kernel_rfl) (by kernel_rfl) (by kernel_rfl) ((Kp.refl _).drew) (fun _ _ hk h => h.trans hk) ⟨fun _ _ _ _ h => h, fun _ _ _ _ h => h, fun _ _ _ _ h => h, fun _ _ _ _ h => h, fun _ _ _ _ h => h, fun _ _ _ _ h => h, fun _ _ _ _ h => h, fun _ _ _ _ h => h, fun _ _ _ _ h => h, fun _ _ _ _ h => h, trivial⟩ ⟨?sb0, ?sb1, ?sb2, ?sb3, ?sb4, ?sb5, ?sb6, ?sb7, ?sb8, ?sb9, trivial⟩ ?hEb
    case sb0 =>
      intro x u hg hd K hK
      clear hd
      refine ⟨?_⟩
      simp only [putsFrom, Act.put, List.setIfInBounds_toArray, List.set_cons_zero, List.set_cons_succ, Nat.reduceAdd] at hK ⊢
      go_simp
      exact hK.out _ _ (Kp.refl _) rfl
    case sb1 =>
      intro x u hg hd K hK
      have d0 : (x 0) = .int .i64 0 := And.left hd
      clear hd
      refine ⟨?_⟩
      simp only [putsFrom, Act.put, List.setIfInBounds_toArray, List.set_cons_zero, List.set_cons_succ, Nat.reduceAdd, d0] at hK ⊢
      go_simp
      exact hK.out _ _ (Kp.refl _) rfl
    case sb2 =>
      intro x u hg hd K hK
      have d1 : (x 1) = .bool true := And.left hd
      clear hd
      refine ⟨?_⟩
      simp only [putsFrom, Act.put, List.setIfInBounds_toArray, List.set_cons_zero, List.set_cons_succ, Nat.reduceAdd, d1] at hK ⊢
      go_simp
      exact hK.out _ _ (Kp.refl _) rfl
    case sb3 =>
      intro x u hg hd K hK
      have d2 : (x 2) = .bool true := And.left hd
      clear hd
      refine ⟨?_⟩
      simp only [putsFrom, Act.put, List.setIfInBounds_toArray, List.set_cons_zero, List.set_cons_succ, Nat.reduceAdd, d2] at hK ⊢
      go_simp
      exact hK.out _ _ (Kp.refl _) rfl
    case sb4 =>
      intro x u hg hd K hK
      have d2 : (x 2) = .bool true := And.left hd
      have d3 : (x 3) = .string a0 := And.left (And.right hd)
      clear hd
      refine ⟨?_⟩
      simp only [putsFrom, Act.put, List.setIfInBounds_toArray, List.set_cons_zero, List.set_cons_succ, Nat.reduceAdd, d2, d3] at hK ⊢
      go_simp
      go_at_call 37
      have hc := ((HFI.out u ⟨#[110, 105, 108]⟩ a0 (by decide) hS).mono fun _ _ h => (show _ = Ending.returned (.bool n) ∧ _ from by rw [HNI.out] at h; exact h))
      refine hc.mono ?_
      clear hc
      rintro e u' ⟨rfl, hk⟩
      dsimp only
      exact hK.out _ _ hk rfl
    case sb5 =>
      intro x u hg hd K hK
      have d2 : (x 2) = .bool true := And.left hd
      clear hd
      refine ⟨?_⟩
      simp only [putsFrom, Act.put, List.setIfInBounds_toArray, List.set_cons_zero, List.set_cons_succ, Nat.reduceAdd, d2] at hK ⊢
      go_simp
      exact hK.out _ _ (Kp.refl _) rfl
    case sb6 =>
      intro x u hg hd K hK
      have d2 : (x 2) = .bool true := And.left hd
      have d5 : (x 5) = .pointer (some ⟨w3.heap.size, 0, none⟩) := And.left (And.right hd)
      clear hd
      have cK' := cell_kp hg hlt CK.out
      refine ⟨?_⟩
      simp only [putsFrom, Act.put, List.setIfInBounds_toArray, List.set_cons_zero, List.set_cons_succ, Nat.reduceAdd, d2, d5] at hK ⊢
      go_simp
      exact hK.out _ _ (Kp.refl _) rfl
    case sb7 =>
      intro x u hg hd K hK
      have d2 : (x 2) = .bool true := And.left hd
      have d6 : (x 6) = .int .i64 k := And.left (And.right hd)
      clear hd
      have hn' := HN.out
      refine ⟨?_⟩
      simp only [putsFrom, Act.put, List.setIfInBounds_toArray, List.set_cons_zero, List.set_cons_succ, Nat.reduceAdd, d2, d6] at hK ⊢
      go_simp
      exact hK.out _ _ (Kp.refl _) rfl
    case sb8 =>
      intro x u hg hd K hK
      have d2 : (x 2) = .bool true := And.left hd
      have d4 : (x 4) = .bool n := And.left (And.right hd)
      have d7 : (x 7) = .bool n := And.left (And.right (And.right hd))
      clear hd
      have hnn : (n != n) = false := by cases n <;> rfl
      refine ⟨?_⟩
      simp only [putsFrom, Act.put, List.setIfInBounds_toArray, List.set_cons_zero, List.set_cons_succ, Nat.reduceAdd, d2, d4, d7] at hK ⊢
      go_simp
      exact hK.out _ _ (Kp.refl _) rfl
    case sb9 =>
      intro x u hg hd K hK
      have d2 : (x 2) = .bool true := And.left hd
      have d8 : (x 8) = .bool false := And.left (And.right hd)
      clear hd
      refine ⟨?_⟩
      simp only [putsFrom, Act.put, List.setIfInBounds_toArray, List.set_cons_zero, List.set_cons_succ, Nat.reduceAdd, d2, d8] at hK ⊢
      go_simp
      exact hK.out _ _ (Kp.refl _) rfl
    intro x u hg he
    have d0 : (x 0) = .int .i64 0 := And.left he
    have d1 : (x 1) = .bool true := And.left (And.right he)
    have d2 : (x 2) = .bool true := And.left (And.right (And.right he))
    have d3 : (x 3) = .string a0 := And.left (And.right (And.right (And.right he)))
    have d4 : (x 4) = .bool n := And.left (And.right (And.right (And.right (And.right he))))
    have d5 : (x 5) = .pointer (some ⟨w3.heap.size, 0, none⟩) := And.left (And.right (And.right (And.right (And.right (And.right he)))))
    have d6 : (x 6) = .int .i64 k := And.left (And.right (And.right (And.right (And.right (And.right (And.right he))))))
    have d7 : (x 7) = .bool n := And.left (And.right (And.right (And.right (And.right (And.right (And.right (And.right he)))))))
    have d8 : (x 8) = .bool false := And.left (And.right (And.right (And.right (And.right (And.right (And.right (And.right (And.right he))))))))
    have d9 : (x 9) = .bool false := And.left (And.right (And.right (And.right (And.right (And.right (And.right (And.right (And.right (And.right he)))))))))
    clear he
    refine ⟨?_⟩
    simp only [putsFrom, Act.put, List.setIfInBounds_toArray, List.set_cons_zero, List.set_cons_succ, Nat.reduceAdd, d0, d1, d2, d3, d4, d5, d6, d7, d8, d9]
    clear d0 d1 d2 d3 d4 d5 d6 d7 d8 d9
    have HK7 : Hid (Kp w u) := hid (HK.out.trans hg)
    clear hg
    go_wp2_with fail
    refine (HCO.out _ _ _ hS hT).mono ?_
    rintro e w8 ⟨rfl, k8⟩
    rw [HC1.out]
    go_wp2_with fail
    refine (HCO.out _ _ _ hT hS).mono ?_
    rintro e w9 ⟨rfl, k9⟩
    rw [HC2.out]
    have e0 : (c == c) = true := beq_self_eq_true c
    go_wp2_with fail
    refine (HFI.out _ _ _ hS hT).mono ?_
    rintro e w10 ⟨rfl, k10⟩
    rw [HG.out]
    have HK2 : Hid (Kp w w10) := hid (((HK7.out.trans k8).trans k9).trans k10)
    have e1 := H1.out; have e2 := H2.out; have e3 := H3.out
    clear k8 k9 k10 e0
    cases g
    · go_wp2
      go_ret
      exact ⟨rfl, HK2.out⟩
    · have hx := hx rfl
      cases x1 <;> cases x2 <;> cases x3
      · cases hx
      all_goals
        go_wp2
        go_ret
        exact ⟨rfl, HK2.out⟩

/-! ### The row's step (the guide's frame, written by program) -/
set_option maxRecDepth 100000 in
theorem lifted (os : Os) (started : os.Started) (H : Type) (enc : TypeId × Value → H) :
    ReturnsInHanded {} Try.checked os 12 .any (Rows.typesFittingSpec.pre6 enc Try.prog Try.f12 Rows.typesFittingRow.domain false) (Rows.typesFittingSpec.post enc Try.prog Try.f12 false true false false) := by
  refine returnsInHanded_of_change_sized (C := Try.checked) own started (by kernel_rfl) Try.func12
    (ChangeSpec.witness6 (enc := enc) (C := Try.checked) false ⟨#[], #[.string ⟨#[]⟩, .string ⟨#[]⟩], []⟩ 8 (by kernel_rfl) (by kernel_rfl) (by kernel_rfl) (by kernel_rfl)) ?_
  intro W base args ds gs before hval0 hW _ hsz0 _
  have hsz : (DataW.weightsEach Try.prog (Try.f12.params.toList ++ Rows.typesFittingSpec.plain.varTypes Try.prog) (ds ++ gs)).all (· ≤ reachBytes) = true := hsz0
  clear hsz0
  have hval : ∀ (j : Nat) t v, Try.f12.params[j]? = some t → args[j]? = some v → Value.okWide Try.prog W .any base t v := hval0
  have hW' := hW
  obtain ⟨p, q, hA0, hV, rfl, hfz, hnd⟩ := hW
  have hA : DataW.TrodAll enc Try.prog W 0 (fun _ => true) true Try.f12.params.toList args.toList ds p := hA0
  rw [Try.params12] at hA hval hsz
  obtain ⟨v0, vs0, d0, ds0, p0, q0, hargs, rfl, rfl, h0, r0⟩ := trodAll_cons hA
  obtain ⟨v1, vs1, d1, ds1, p1, q1, rfl, rfl, rfl, h1, r1⟩ := trodAll_cons r0
  obtain ⟨rfl, rfl, rfl⟩ := trodAll_nil r1
  obtain rfl : args = #[v0, v1] := by cases args; simp_all
  obtain ⟨rfl, rfl⟩ := trodVars_none hV
  have k0 := h0
  have lt0 : ∀ x ∈ p0, x.block < W.heap.size := by obtain ⟨m, hm⟩ := k0; exact DataW.trod_lt m _ _ _ hm
  have hz0 : ∀ n ∈ DataW.weights Try.prog 9 d0, n ≤ reachBytes := fun n hn => by
    have := List.all_eq_true.1 hsz _ (DataW.weights_mem_each (j := 0) rfl rfl n hn)
    simpa using this
  obtain ⟨a0, rfl, rfl, rfl, ws0⟩ := open_string Try.underlying9 (hval 0 9 v0 rfl rfl) h0
  have w0 : a0.size ≤ 140737488351232 := by
    have h := hz0 a0.data.toList.length (by simp [DataW.weights])
    rw [Array.length_toList] at h; exact h
  have k1 := h1
  have lt1 : ∀ x ∈ p1, x.block < W.heap.size := by obtain ⟨m, hm⟩ := k1; exact DataW.trod_lt m _ _ _ hm
  have hz1 : ∀ n ∈ DataW.weights Try.prog 9 d1, n ≤ reachBytes := fun n hn => by
    have := List.all_eq_true.1 hsz _ (DataW.weights_mem_each (j := 1) rfl rfl n hn)
    simpa using this
  obtain ⟨a1, rfl, rfl, rfl, ws1⟩ := open_string Try.underlying9 (hval 1 9 v1 rfl rfl) h1
  have w1 : a1.size ≤ 140737488351232 := by
    have h := hz1 a1.data.toList.length (by simp [DataW.weights])
    rw [Array.length_toList] at h; exact h
  clear hA0 hval0
  simp only [List.append_nil] at hW'
  refine (walk a0 a1 W w0 w1).mono fun e W' ⟨he, bel⟩ => ?_
  subst he
  exact ⟨_, rfl, _, _, _, [], _, [], hW', trodAll_mk1 (shut_bool Try.underlying4 _), (trodAll_cons_mk (Below.trod laidOut (by kernel_rfl) (of_decide_eq_true (by kernel_rfl)) k0 bel lt0) (trodAll_cons_mk (Below.trod laidOut (by kernel_rfl) (of_decide_eq_true (by kernel_rfl)) k1 bel lt1) trodAll_mk0)), rfl, Below.frame bel _, fun h => by cases h⟩

theorem over : Rows.typesFittingRow.holds Try.pinned (OpenSpec.ofChange Rows.typesFittingSpec) :=
  OpenClaim.holds_of_wide 12 Try.f12 rfl rfl rfl rfl rfl rfl rfl ⟨rfl, rfl, rfl, rfl, rfl⟩ rfl rfl rfl rfl rfl (by kernel_rfl) Try.func12 (by kernel_rfl)
    (of_decide_eq_true (by kernel_rfl)) (by unfold Func.isWrapper; rw [if_neg (of_decide_eq_false (by kernel_rfl))]; exact ⟨rfl, rfl⟩)
    (fun os started H enc _ => lifted os started H enc)

/-- THE STATEMENT. -/
theorem proved : Rows.TypesFittingSaid := over
#print axioms proved

end Go.Proofs.Ytmcidhjcimjeiaa.typesFitting
