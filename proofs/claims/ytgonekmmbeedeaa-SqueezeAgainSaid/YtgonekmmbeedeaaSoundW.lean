/-
  Package code: judge.field. Condition: the function's numbers lie within their bounds.
-/
import Derived.Test.YtgonekmmbeedeaaSoundV
namespace Go.Proofs.Ytgonekmmbeedeaa
open Go.RowKit
set_option linter.unusedVariables false
set_option linter.unusedSimpArgs false

/-- A code and a function of it whose numbers lie within their bounds. -/
structure JOk (c : CodeM) (f : FnM) : Prop where
  nf : c.funcs.length ≤ 400
  nt : c.texts.length ≤ 2000
  ni : f.ins.length ≤ 20000
  p0 : 0 ≤ f.params
  p1 : f.params ≤ 4
  s0 : f.params ≤ f.slots
  s1 : f.slots ≤ 3000
  c0 : 0 ≤ f.caps
  c1 : f.caps ≤ 200
/-- A judge as a value. -/
def JudgeAt (w : World) (v : Value) (c : CodeM) (f : FnM) : Prop := ∃ vf vt A cc, v = .agg #[vf, vt, .string f.name, .int .i64 f.params, .int .i64 f.slots, .int .i64 f.caps, .slice A f.ins.length cc] ∧ RdL CeFn 5 w vf c.funcs ∧ RdL CeStr 1 w vt c.texts
theorem JudgeAt.kp {w w' : World} {v : Value} {c : CodeM} {f : FnM} (h : JudgeAt w v c f) (hk : Kp w w') : JudgeAt w' v c f := by
  obtain ⟨vf, vt, A, cc, rfl, h1, h2⟩ := h
  exact ⟨vf, vt, A, cc, rfl, h1.kp CeFn.kp hk, h2.kp CeStr.kp hk⟩
theorem within_is {b : Bool} (n lo hi : Int) (w : World) (h : withinB n lo hi = b) : Calls Try.prog 54 #[.int .i64 n, .int .i64 lo, .int .i64 hi] w fun e w' => e = .returned (.bool b) ∧ w = w' := by
  subst h; exact within_any n lo hi w
theorem wrap_in (x : Int) (h : -1000000 ≤ x ∧ x ≤ 1000000) : IntKind.i64.wrap x = x := by rw [IntKind.wrap_i64]; omega
set_option maxRecDepth 20000 in
set_option maxHeartbeats 8000000 in
theorem field_any (w : World) (v : Value) (c : CodeM) (f : FnM) (J : JOk c f) (hv : JudgeAt w v c f) (kind : UInt8) (k : Int) (hk : (kind.toNat : Int) = k) (n next : Int) :
    Calls Try.prog 57 #[v, .int .u8 k, .int .i64 n, .int .i64 next] w fun e w' => e = .returned (.bool (fieldM c f kind n next)) ∧ Kp w w' := by
  obtain ⟨vf, vt, A, cc, rfl, hf, ht⟩ := hv
  obtain ⟨Af, cf, rfl, _⟩ := hf.form
  obtain ⟨At, ct, rfl, _⟩ := ht.form
  have HF := hid hf
  have u1 := wrap_in (f.slots - 1) (by have := J.p0; have := J.s0; have := J.s1; omega)
  have u2 := wrap_in (f.caps - 1) (by have := J.c0; have := J.c1; omega)
  have u3 := wrap_in ((c.texts.length : Int) - 1) (by have := J.nt; omega)
  have u4 := wrap_in ((c.funcs.length : Int) - 1) (by have := J.nf; omega)
  have u5 := wrap_in ((f.ins.length : Int) - 1) (by have := J.ni; omega)
  have HJ := hid J
  have HKP := fun o => hid (show Kp w (w.alloc o) from (Kp.refl _).alloc _)
  clear hf ht J
  have hcase : kind = 115 ∨ kind = 110 ∨ kind = 98 ∨ kind = 120 ∨ kind = 102 ∨ kind = 103 ∨ kind = 116 ∨ kind = 111 ∨ kind = 99 ∨ kind = 107 ∨ kind = 97 ∨ kind = 114 ∨ kind = 112 ∨ kind = 80 ∨ kind = 119 ∨ kind = 91 ∨ kind = 40 ∨ kind = 93 ∨ kind = 41 ∨ (kind ≠ 115 ∧ kind ≠ 110 ∧ kind ≠ 98 ∧ kind ≠ 120 ∧ kind ≠ 102 ∧ kind ≠ 103 ∧ kind ≠ 116 ∧ kind ≠ 111 ∧ kind ≠ 99 ∧ kind ≠ 107 ∧ kind ≠ 97 ∧ kind ≠ 114 ∧ kind ≠ 112 ∧ kind ≠ 80 ∧ kind ≠ 119 ∧ kind ≠ 91 ∧ kind ≠ 40 ∧ kind ≠ 93 ∧ kind ≠ 41) := by
    by_cases h115 : kind = 115
    · exact (.inl h115)
    by_cases h110 : kind = 110
    · exact (.inr (.inl h110))
    by_cases h98 : kind = 98
    · exact (.inr (.inr (.inl h98)))
    by_cases h120 : kind = 120
    · exact (.inr (.inr (.inr (.inl h120))))
    by_cases h102 : kind = 102
    · exact (.inr (.inr (.inr (.inr (.inl h102)))))
    by_cases h103 : kind = 103
    · exact (.inr (.inr (.inr (.inr (.inr (.inl h103))))))
    by_cases h116 : kind = 116
    · exact (.inr (.inr (.inr (.inr (.inr (.inr (.inl h116)))))))
    by_cases h111 : kind = 111
    · exact (.inr (.inr (.inr (.inr (.inr (.inr (.inr (.inl h111))))))))
    by_cases h99 : kind = 99
    · exact (.inr (.inr (.inr (.inr (.inr (.inr (.inr (.inr (.inl h99)))))))))
    by_cases h107 : kind = 107
    · exact (.inr (.inr (.inr (.inr (.inr (.inr (.inr (.inr (.inr (.inl h107))))))))))
    by_cases h97 : kind = 97
    · exact (.inr (.inr (.inr (.inr (.inr (.inr (.inr (.inr (.inr (.inr (.inl h97)))))))))))
    by_cases h114 : kind = 114
    · exact (.inr (.inr (.inr (.inr (.inr (.inr (.inr (.inr (.inr (.inr (.inr (.inl h114))))))))))))
    by_cases h112 : kind = 112
    · exact (.inr (.inr (.inr (.inr (.inr (.inr (.inr (.inr (.inr (.inr (.inr (.inr (.inl h112)))))))))))))
    by_cases h80 : kind = 80
    · exact (.inr (.inr (.inr (.inr (.inr (.inr (.inr (.inr (.inr (.inr (.inr (.inr (.inr (.inl h80))))))))))))))
    by_cases h119 : kind = 119
    · exact (.inr (.inr (.inr (.inr (.inr (.inr (.inr (.inr (.inr (.inr (.inr (.inr (.inr (.inr (.inl h119)))))))))))))))
    by_cases h91 : kind = 91
    · exact (.inr (.inr (.inr (.inr (.inr (.inr (.inr (.inr (.inr (.inr (.inr (.inr (.inr (.inr (.inr (.inl h91))))))))))))))))
    by_cases h40 : kind = 40
    · exact (.inr (.inr (.inr (.inr (.inr (.inr (.inr (.inr (.inr (.inr (.inr (.inr (.inr (.inr (.inr (.inr (.inl h40)))))))))))))))))
    by_cases h93 : kind = 93
    · exact (.inr (.inr (.inr (.inr (.inr (.inr (.inr (.inr (.inr (.inr (.inr (.inr (.inr (.inr (.inr (.inr (.inr (.inl h93))))))))))))))))))
    by_cases h41 : kind = 41
    · exact (.inr (.inr (.inr (.inr (.inr (.inr (.inr (.inr (.inr (.inr (.inr (.inr (.inr (.inr (.inr (.inr (.inr (.inr (.inl h41)))))))))))))))))))
    exact .inr (.inr (.inr (.inr (.inr (.inr (.inr (.inr (.inr (.inr (.inr (.inr (.inr (.inr (.inr (.inr (.inr (.inr (.inr (⟨h115, h110, h98, h120, h102, h103, h116, h111, h99, h107, h97, h114, h112, h80, h119, h91, h40, h93, h41⟩)))))))))))))))))))
  rcases hcase with rfl | rfl | rfl | rfl | rfl | rfl | rfl | rfl | rfl | rfl | rfl | rfl | rfl | rfl | rfl | rfl | rfl | rfl | rfl | hne
  · -- s
    obtain rfl : k = 115 := by rw [← hk]; rfl
    clear hk
    go_enter Try.func57, Try.ntmps57
    go_wp2_with (go_at_call 54; go_must (refine (within_any _ _ _ _).mono ?_); rintro e w9 ⟨rfl, rfl⟩)
    go_ret
    exact ⟨ret_bool rfl, (HKP _).out⟩
  · -- n
    obtain rfl : k = 110 := by rw [← hk]; rfl
    clear hk
    go_enter Try.func57, Try.ntmps57
    go_wp2
    go_ret
    exact ⟨ret_bool rfl, (HKP _).out⟩
  · -- b
    obtain rfl : k = 98 := by rw [← hk]; rfl
    clear hk
    go_enter Try.func57, Try.ntmps57
    go_wp2_with (go_at_call 54; go_must (refine (within_any _ _ _ _).mono ?_); rintro e w9 ⟨rfl, rfl⟩)
    go_ret
    exact ⟨ret_bool rfl, (HKP _).out⟩
  · -- x
    obtain rfl : k = 120 := by rw [← hk]; rfl
    clear hk
    go_enter Try.func57, Try.ntmps57
    go_wp2_with (go_at_call 54; go_must (refine (within_any _ _ _ _).mono ?_); rintro e w9 ⟨rfl, rfl⟩)
    go_ret
    exact ⟨ret_bool rfl, (HKP _).out⟩
  · -- f
    obtain rfl : k = 102 := by rw [← hk]; rfl
    clear hk
    have hform : fieldM c f 102 n next = (withinB n 0 ((c.funcs.length : Int) - 1) && decide (capsAt c n = 0)) := rfl
    cases hb : withinB n 0 ((c.funcs.length : Int) - 1) with
    | false =>
      have HB := hid hb
      have HFM := hid hform
      clear hb hform
      go_enter Try.func57, Try.ntmps57
      go_wp2_with (go_at_call 54; go_must (refine (within_is _ _ _ _ HB.out).mono ?_); rintro e w9 ⟨rfl, rfl⟩)
      go_ret
      exact ⟨ret_bool (by rw [HFM.out, HB.out]; rfl), (HKP _).out⟩
    | true =>
      have hw := withinB_iff.1 hb
      obtain ⟨i, rfl⟩ : ∃ i : Nat, n = i := ⟨n.toNat, by omega⟩
      have hi : i < c.funcs.length := by omega
      have i2 : (i : Int) < (c.funcs.length : Int) := by omega
      obtain ⟨g, hg⟩ : ∃ g, c.funcs[i]? = some g := ⟨_, List.getElem?_eq_getElem hi⟩
      have hcap : capsAt c i = g.caps := by unfold capsAt; simp [hg]
      obtain ⟨b, off, rfl, hlt, lins, q0, q1, q2, q3, q4, _⟩ := at_fn (HF.out) hg
      have HB := hid hb
      have HFM := hid hform
      have HCP := hid hcap
      clear hb hform hw hg hcap q0 q1 q2 q4
      by_cases h0 : g.caps = 0
      · have z : (g.caps == 0) = true := by simp [h0]
        have H0 := hid h0
        clear h0
        go_enter Try.func57, Try.ntmps57
        go_wp2_with (go_at_call 54; go_must (refine (within_is _ _ _ _ HB.out).mono ?_); rintro e w9 ⟨rfl, rfl⟩)
        go_ret
        exact ⟨ret_bool (by rw [HFM.out, HB.out, HCP.out]; simp [H0.out]), (HKP _).out⟩
      · have z : (g.caps == 0) = false := by simp [h0]
        have H0 := hid h0
        clear h0
        go_enter Try.func57, Try.ntmps57
        go_wp2_with (go_at_call 54; go_must (refine (within_is _ _ _ _ HB.out).mono ?_); rintro e w9 ⟨rfl, rfl⟩)
        go_ret
        exact ⟨ret_bool (by rw [HFM.out, HB.out, HCP.out]; simp [H0.out]), (HKP _).out⟩
  · -- g
    obtain rfl : k = 103 := by rw [← hk]; rfl
    clear hk
    go_enter Try.func57, Try.ntmps57
    go_wp2_with (go_at_call 54; go_must (refine (within_any _ _ _ _).mono ?_); rintro e w9 ⟨rfl, rfl⟩)
    go_ret
    exact ⟨ret_bool rfl, (HKP _).out⟩
  · -- t
    obtain rfl : k = 116 := by rw [← hk]; rfl
    clear hk
    go_enter Try.func57, Try.ntmps57
    go_wp2_with (go_at_call 54; go_must (refine (within_any _ _ _ _).mono ?_); rintro e w9 ⟨rfl, rfl⟩)
    go_ret
    exact ⟨ret_bool rfl, (HKP _).out⟩
  · -- o
    obtain rfl : k = 111 := by rw [← hk]; rfl
    clear hk
    go_enter Try.func57, Try.ntmps57
    go_wp2_with (go_at_call 54; go_must (refine (within_any _ _ _ _).mono ?_); rintro e w9 ⟨rfl, rfl⟩)
    go_ret
    exact ⟨ret_bool rfl, (HKP _).out⟩
  · -- c
    obtain rfl : k = 99 := by rw [← hk]; rfl
    clear hk
    go_enter Try.func57, Try.ntmps57
    go_wp2_with (go_at_call 54; go_must (refine (within_any _ _ _ _).mono ?_); rintro e w9 ⟨rfl, rfl⟩)
    go_ret
    exact ⟨ret_bool rfl, (HKP _).out⟩
  · -- k
    obtain rfl : k = 107 := by rw [← hk]; rfl
    clear hk
    go_enter Try.func57, Try.ntmps57
    go_wp2_with (go_at_call 54; go_must (refine (within_any _ _ _ _).mono ?_); rintro e w9 ⟨rfl, rfl⟩)
    go_ret
    exact ⟨ret_bool rfl, (HKP _).out⟩
  · -- a
    obtain rfl : k = 97 := by rw [← hk]; rfl
    clear hk
    by_cases h0 : 0 ≤ n
    · go_enter Try.func57, Try.ntmps57
      go_wp2
      go_ret
      exact ⟨ret_bool (show decide (0 ≤ n) = _ by simp [h0]).symm, (HKP _).out⟩
    · go_enter Try.func57, Try.ntmps57
      go_wp2
      go_ret
      exact ⟨ret_bool (show decide (0 ≤ n) = _ by simp [h0]).symm, (HKP _).out⟩
  · -- r
    obtain rfl : k = 114 := by rw [← hk]; rfl
    clear hk
    go_enter Try.func57, Try.ntmps57
    go_wp2_with (go_at_call 54; go_must (refine (within_any _ _ _ _).mono ?_); rintro e w9 ⟨rfl, rfl⟩)
    go_ret
    exact ⟨ret_bool rfl, (HKP _).out⟩
  · -- p
    obtain rfl : k = 112 := by rw [← hk]; rfl
    clear hk
    go_enter Try.func57, Try.ntmps57
    go_wp2_with (go_at_call 54; go_must (refine (within_any _ _ _ _).mono ?_); rintro e w9 ⟨rfl, rfl⟩)
    go_ret
    exact ⟨ret_bool rfl, (HKP _).out⟩
  · -- P
    obtain rfl : k = 80 := by rw [← hk]; rfl
    clear hk
    go_enter Try.func57, Try.ntmps57
    go_wp2_with (go_at_call 54; go_must (refine (within_any _ _ _ _).mono ?_); rintro e w9 ⟨rfl, rfl⟩)
    go_ret
    exact ⟨ret_bool rfl, (HKP _).out⟩
  · -- w
    obtain rfl : k = 119 := by rw [← hk]; rfl
    clear hk
    go_enter Try.func57, Try.ntmps57
    go_wp2_with (go_at_call 54; go_must (refine (within_any _ _ _ _).mono ?_); rintro e w9 ⟨rfl, rfl⟩)
    go_ret
    exact ⟨ret_bool rfl, (HKP _).out⟩
  · -- [
    obtain rfl : k = 91 := by rw [← hk]; rfl
    clear hk
    have hform : fieldM c f 91 n next = (withinB next 0 f.slots && withinB n 0 (f.slots - next)) := rfl
    cases hb : withinB next 0 f.slots with
    | false =>
      have HB := hid hb
      have HFM := hid hform
      clear hb hform
      go_enter Try.func57, Try.ntmps57
      go_wp2_with (go_at_call 54; go_must (refine (within_is _ _ _ _ HB.out).mono ?_); rintro e w9 ⟨rfl, rfl⟩)
      go_ret
      exact ⟨ret_bool (by rw [HFM.out, HB.out]; rfl), (HKP _).out⟩
    | true =>
      have hw := withinB_iff.1 hb
      have u6 := wrap_in (f.slots - next) (by have := HJ.out.s1; have := HJ.out.p0; have := HJ.out.s0; omega)
      have HFM := hid hform
      have HB := hid hb
      clear hb hform hw
      go_enter Try.func57, Try.ntmps57
      go_wp2_with (go_at_call 54; go_must (refine (within_any _ _ _ _).mono ?_); rintro e w9 ⟨rfl, rfl⟩; try rw [HB.out])
      go_ret
      exact ⟨ret_bool (by rw [HFM.out, HB.out]; rfl), (HKP _).out⟩
  · -- (
    obtain rfl : k = 40 := by rw [← hk]; rfl
    clear hk
    have hform : fieldM c f 40 n next = (withinB next 0 f.slots && withinB n 0 (f.slots - next)) := rfl
    cases hb : withinB next 0 f.slots with
    | false =>
      have HB := hid hb
      have HFM := hid hform
      clear hb hform
      go_enter Try.func57, Try.ntmps57
      go_wp2_with (go_at_call 54; go_must (refine (within_is _ _ _ _ HB.out).mono ?_); rintro e w9 ⟨rfl, rfl⟩)
      go_ret
      exact ⟨ret_bool (by rw [HFM.out, HB.out]; rfl), (HKP _).out⟩
    | true =>
      have hw := withinB_iff.1 hb
      have u6 := wrap_in (f.slots - next) (by have := HJ.out.s1; have := HJ.out.p0; have := HJ.out.s0; omega)
      have HFM := hid hform
      have HB := hid hb
      clear hb hform hw
      go_enter Try.func57, Try.ntmps57
      go_wp2_with (go_at_call 54; go_must (refine (within_any _ _ _ _).mono ?_); rintro e w9 ⟨rfl, rfl⟩; try rw [HB.out])
      go_ret
      exact ⟨ret_bool (by rw [HFM.out, HB.out]; rfl), (HKP _).out⟩
  · -- ]
    obtain rfl : k = 93 := by rw [← hk]; rfl
    clear hk
    go_enter Try.func57, Try.ntmps57
    go_wp2
    go_ret
    exact ⟨ret_bool rfl, (HKP _).out⟩
  · -- )
    obtain rfl : k = 41 := by rw [← hk]; rfl
    clear hk
    go_enter Try.func57, Try.ntmps57
    go_wp2
    go_ret
    exact ⟨ret_bool rfl, (HKP _).out⟩
  · obtain ⟨n115, n110, n98, n120, n102, n103, n116, n111, n99, n107, n97, n114, n112, n80, n119, n91, n40, n93, n41⟩ := hne
    have hform : fieldM c f kind n next = decide (n = 0) := by unfold fieldM; simp only [if_neg n115, if_neg n110, if_neg n98, if_neg n120, if_neg n102, if_neg n103, if_neg n116, if_neg n111, if_neg n99, if_neg n107, if_neg n97, if_neg n114, if_neg n119, n112, n80, n91, n40, n93, n41, or_self, if_false]
    have nk : ∀ j : UInt8, kind ≠ j → (k == (j.toNat : Int)) = false := by
      intro j hj; rw [beq_eq_false_iff_ne]; intro h; apply hj; apply UInt8.toNat_inj.1; omega
    have t115 : (k == 115) = false := nk 115 n115
    have t110 : (k == 110) = false := nk 110 n110
    have t98 : (k == 98) = false := nk 98 n98
    have t120 : (k == 120) = false := nk 120 n120
    have t102 : (k == 102) = false := nk 102 n102
    have t103 : (k == 103) = false := nk 103 n103
    have t116 : (k == 116) = false := nk 116 n116
    have t111 : (k == 111) = false := nk 111 n111
    have t99 : (k == 99) = false := nk 99 n99
    have t107 : (k == 107) = false := nk 107 n107
    have t97 : (k == 97) = false := nk 97 n97
    have t114 : (k == 114) = false := nk 114 n114
    have t112 : (k == 112) = false := nk 112 n112
    have t80 : (k == 80) = false := nk 80 n80
    have t119 : (k == 119) = false := nk 119 n119
    have t91 : (k == 91) = false := nk 91 n91
    have t40 : (k == 40) = false := nk 40 n40
    have t93 : (k == 93) = false := nk 93 n93
    have t41 : (k == 41) = false := nk 41 n41
    clear n115 n110 n98 n120 n102 n103 n116 n111 n99 n107 n97 n114 n112 n80 n119 n91 n40 n93 n41 nk
    have HFM := hid hform
    clear hform hk
    by_cases h0 : n = 0
    · have z : (n == 0) = true := by simp [h0]
      have H0 := hid h0
      clear h0
      go_enter Try.func57, Try.ntmps57
      go_wp2
      go_ret
      exact ⟨ret_bool (by rw [HFM.out]; simp [H0.out]), (HKP _).out⟩
    · have z : (n == 0) = false := by simp [h0]
      have H0 := hid h0
      clear h0
      go_enter Try.func57, Try.ntmps57
      go_wp2
      go_ret
      exact ⟨ret_bool (by rw [HFM.out]; simp [H0.out]), (HKP _).out⟩
end Go.Proofs.Ytgonekmmbeedeaa
