/-
  Package code: named, head. Condition: the name lies within the reach.
-/
import Derived.Test.YtgonekmmbeedeaaSoundW
import Derived.Test.YtgonekmmbeedeaaToks
namespace Go.Proofs.Ytgonekmmbeedeaa
open Go.RowKit
set_option linter.unusedVariables false
set_option linter.unusedSimpArgs false

open Classical in
/-- May a function have the name, as a bool. -/
noncomputable def namedB (s : ByteArray) : Bool := decide (NamedP s)
open Classical in
theorem namedB_yes {s : ByteArray} (h : NamedP s) : namedB s = true := by unfold namedB; exact decide_eq_true h
open Classical in
theorem namedB_no {s : ByteArray} (h : ¬ NamedP s) : namedB s = false := by unfold namedB; exact decide_eq_false h
theorem str_eqB (a b : ByteArray) : (a.toList == b.toList) = decide (a = b) := by
  by_cases h : a = b
  · subst h; simp
  · rw [decide_eq_false h, beq_eq_false_iff_ne, ByteArray.toList_eq, ByteArray.toList_eq]
    intro e; apply h; cases a; cases b; congr 1; exact Array.toList_inj.1 e
set_option maxRecDepth 20000 in
set_option maxHeartbeats 8000000 in
theorem named_any (S : ByteArray) (hS : S.size ≤ 140737488351232) (w : World) : Calls Try.prog 53 #[.string S] w fun e w' => e = .returned (.bool (namedB S)) ∧ Kp w w' := by
  by_cases h0 : S.size = 0
  · have HN := hid (namedB_yes (s := S) (.inl h0))
    have hl : S.toList = [] := by rw [ByteArray.toList_eq]; exact List.eq_nil_of_length_eq_zero (by rw [Array.length_toList]; exact h0)
    clear h0
    go_enter Try.func53, Try.ntmps53
    go_wp2
    go_ret
    exact ⟨ret_bool HN.out.symm, Kp.refl _⟩
  have hl : (S.toList == []) = false := by
    rw [beq_eq_false_iff_ne, ByteArray.toList_eq]
    intro h
    apply h0
    have := congrArg List.length h
    rw [Array.length_toList] at this; exact this
  have H0 := hid h0
  clear h0
  obtain ⟨r, hr⟩ := toks_ex S
  cases r with
  | error er =>
    have HT := fun w => toks_err hS hr w
    have HN := hid (namedB_no (s := S) (by
      rintro (h | ⟨l, t, hT2, _⟩)
      · exact H0.out h
      · cases hr.det hT2))
    clear hr
    go_enter Try.func53, Try.ntmps53
    go_wp2_with (go_at_call 39; go_must (refine (HT _).mono ?_); rintro e w1 ⟨⟨h1, _, rfl⟩, hk1⟩; have hz : (er.1 == 0) = false := by (rw [beq_eq_false_iff_ne]; omega))
    go_ret
    exact ⟨ret_bool HN.out.symm, hk1.alloc _⟩
  | ok l =>
    have HT := fun w => toks_ok hr w
    have HR := hid hr
    have hle := hr.placed.2.1
    clear hr
    by_cases h2 : l.length = 2
    · have e2 : ((l.length : Int) == 2) = true := by simp [h2]
      obtain ⟨t, ht⟩ : ∃ t, l[0]? = some t := ⟨l[0], List.getElem?_eq_getElem (by omega)⟩
      have HL2 := hid h2
      have HTT := hid ht
      have e3 : (0 : Int) < (l.length : Int) := by omega
      have hse := str_eqB t.text S
      clear h2 ht
      by_cases h3 : t.kind = 1
      · have e4 : (t.kind == 1) = true := by simp [h3]
        have H3 := hid h3
        clear h3
        cases hq : decide (t.text = S) with
        | true =>
          have HN := hid (namedB_yes (s := S) (.inr ⟨l, t, HR.out, HL2.out, HTT.out, H3.out, of_decide_eq_true hq⟩))
          rw [hq] at hse
          clear hq
          go_enter Try.func53, Try.ntmps53
          go_wp2_with (go_at_call 39; go_must (refine (HT _).mono ?_); rintro e w1 ⟨⟨v, rfl, hv⟩, hk1⟩; obtain ⟨A, cc, rfl, _⟩ := hv.rd.form; obtain ⟨b, off, rfl, hb, q0, q1, _⟩ := at_token hv.rd HTT.out; simp only [Nat.zero_mul, Nat.add_zero] at q0 q1; clear hv)
          go_ret
          exact ⟨ret_bool HN.out.symm, hk1.alloc _⟩
        | false =>
          have HN := hid (namedB_no (s := S) (by
            rintro (h | ⟨l2, t2, hT2, _, ht2, _, hs2⟩)
            · exact H0.out h
            · have hd := HR.out.det hT2
              injection hd with hd
              subst hd
              rw [HTT.out] at ht2
              injection ht2 with ht2
              subst ht2
              exact of_decide_eq_false hq hs2))
          rw [hq] at hse
          clear hq
          go_enter Try.func53, Try.ntmps53
          go_wp2_with (go_at_call 39; go_must (refine (HT _).mono ?_); rintro e w1 ⟨⟨v, rfl, hv⟩, hk1⟩; obtain ⟨A, cc, rfl, _⟩ := hv.rd.form; obtain ⟨b, off, rfl, hb, q0, q1, _⟩ := at_token hv.rd HTT.out; simp only [Nat.zero_mul, Nat.add_zero] at q0 q1; clear hv)
          go_ret
          exact ⟨ret_bool HN.out.symm, hk1.alloc _⟩
      · have e4 : (t.kind == 1) = false := by simp [h3]
        have HN := hid (namedB_no (s := S) (by
          rintro (h | ⟨l2, t2, hT2, _, ht2, hk2, hs2⟩)
          · exact H0.out h
          · have hd := HR.out.det hT2
            injection hd with hd
            subst hd
            rw [HTT.out] at ht2
            injection ht2 with ht2
            subst ht2
            exact h3 hk2))
        clear h3
        go_enter Try.func53, Try.ntmps53
        go_wp2_with (go_at_call 39; go_must (refine (HT _).mono ?_); rintro e w1 ⟨⟨v, rfl, hv⟩, hk1⟩; obtain ⟨A, cc, rfl, _⟩ := hv.rd.form; obtain ⟨b, off, rfl, hb, q0, q1, _⟩ := at_token hv.rd HTT.out; simp only [Nat.zero_mul, Nat.add_zero] at q0 q1; clear hv)
        go_ret
        exact ⟨ret_bool HN.out.symm, hk1.alloc _⟩
    · have e2 : ((l.length : Int) == 2) = false := by rw [beq_eq_false_iff_ne]; omega
      have HN := hid (namedB_no (s := S) (by
        rintro (h | ⟨l2, t2, hT2, h5, _⟩)
        · exact H0.out h
        · have hd := HR.out.det hT2
          injection hd with hd
          subst hd
          exact h2 h5))
      clear h2
      go_enter Try.func53, Try.ntmps53
      go_wp2_with (go_at_call 39; go_must (refine (HT _).mono ?_); rintro e w1 ⟨⟨v, rfl, hv⟩, hk1⟩; obtain ⟨A, cc, rfl, _⟩ := hv.rd.form; clear hv)
      go_ret
      exact ⟨ret_bool HN.out.symm, hk1.alloc _⟩
/-- The head of a function. -/
theorem headM_named {k : Nat} {f : FnM} (h : namedB f.name = false) : headM k f = 7 := by
  have hn : ¬ NamedP f.name := fun hh => by rw [namedB_yes hh] at h; cases h
  unfold headM; rw [if_pos hn]
theorem headM_range {k : Nat} {f : FnM} (h : namedB f.name = true) (h2 : ¬ (withinB f.params 0 4 = true ∧ withinB f.slots f.params 3000 = true ∧ withinB f.caps 0 200 = true)) : headM k f = 14 := by
  have hn : NamedP f.name := Classical.byContradiction fun hh => by rw [namedB_no hh] at h; cases h
  unfold headM; rw [if_neg (by simpa using hn), if_pos h2]
theorem headM_rest {k : Nat} {f : FnM} (h : namedB f.name = true) (h2 : withinB f.params 0 4 = true ∧ withinB f.slots f.params 3000 = true ∧ withinB f.caps 0 200 = true) :
    headM k f = if k = 0 ∧ (0 < f.params ∨ 0 < f.caps) then 12 else if f.ins = [] then 16 else if 20000 < f.ins.length then 15 else 0 := by
  have hn : NamedP f.name := Classical.byContradiction fun hh => by rw [namedB_no hh] at h; cases h
  unfold headM; rw [if_neg (by simpa using hn), if_neg (fun hh => hh h2)]
set_option maxRecDepth 20000 in
set_option maxHeartbeats 8000000 in
theorem head_any (k : Nat) (f : FnM) (A : Option Addr) (cc : Nat) (hS : f.name.size ≤ 140737488351232) (w : World) :
    Calls Try.prog 35 #[.int .i64 (k : Int), .agg #[.string f.name, .int .i64 f.params, .int .i64 f.slots, .int .i64 f.caps, .slice A f.ins.length cc]] w fun e w' => e = .returned (.int .i64 (headM k f)) ∧ Kp w w' := by
  have HKA := fun (o : Obj) => hid (show Kp w (w.alloc o) from (Kp.refl _).alloc _)
  have HW : ∀ (w : World), Calls Try.prog 53 #[.string f.name] w fun e w' => e = .returned (.bool (namedB f.name)) ∧ Kp w w' := fun w => named_any f.name hS w
  cases hn : namedB f.name with
  | false =>
    have HR := hid (headM_named (k := k) hn)
    have HN := hid hn
    clear hn
    go_enter Try.func35, Try.ntmps35
    go_wp2_with (go_at_call 53; go_must (refine (HW _).mono ?_); rintro e w1 ⟨rfl, hk1⟩; rw [HN.out])
    go_ret
    exact ⟨ret_int HR.out.symm, (HKA _).out.trans hk1⟩
  | true =>
    have HN := hid hn
    cases h1 : withinB f.params 0 4 with
    | false =>
      have HR := hid (headM_range (k := k) hn (by rw [h1]; simp))
      have H1 := hid h1
      clear hn h1
      go_enter Try.func35, Try.ntmps35
      go_wp2_with first | (go_at_call 53; go_must (refine (HW _).mono ?_); rintro e w1 ⟨rfl, hk1⟩; rw [HN.out]; obtain ⟨c1, c2, c3⟩ := kp_at hk1 (w.heap.size + 1) (by simp); have HK1 := hid hk1; clear hk1) | (go_at_call 54; go_must (refine (within_any _ _ _ _).mono ?_); rintro e w9 ⟨rfl, rfl⟩; rw [H1.out])
      go_ret
      exact ⟨ret_int HR.out.symm, (HKA _).out.trans HK1.out⟩
    | true =>
      have H1 := hid h1
      cases h2 : withinB f.slots f.params 3000 with
      | false =>
        have HR := hid (headM_range (k := k) hn (by rw [h2]; simp))
        have H2 := hid h2
        clear hn h1 h2
        go_enter Try.func35, Try.ntmps35
        go_wp2_with first | (go_at_call 53; go_must (refine (HW _).mono ?_); rintro e w1 ⟨rfl, hk1⟩; rw [HN.out]; obtain ⟨c1, c2, c3⟩ := kp_at hk1 (w.heap.size + 1) (by simp); have HK1 := hid hk1; clear hk1) | (go_at_call 54; go_must (refine (within_any _ _ _ _).mono ?_); rintro e w9 ⟨rfl, rfl⟩; first | rw [H2.out] | rw [H1.out])
        go_ret
        exact ⟨ret_int HR.out.symm, (HKA _).out.trans HK1.out⟩
      | true =>
        have H2 := hid h2
        cases h3 : withinB f.caps 0 200 with
        | false =>
          have HR := hid (headM_range (k := k) hn (by rw [h3]; simp))
          have H3 := hid h3
          clear hn h1 h2 h3
          go_enter Try.func35, Try.ntmps35
          go_wp2_with first | (go_at_call 53; go_must (refine (HW _).mono ?_); rintro e w1 ⟨rfl, hk1⟩; rw [HN.out]; obtain ⟨c1, c2, c3⟩ := kp_at hk1 (w.heap.size + 1) (by simp); have HK1 := hid hk1; clear hk1) | (go_at_call 54; go_must (refine (within_any _ _ _ _).mono ?_); rintro e w9 ⟨rfl, rfl⟩; first | rw [H3.out] | rw [H2.out] | rw [H1.out])
          go_ret
          exact ⟨ret_int HR.out.symm, (HKA _).out.trans HK1.out⟩
        | true =>
          have H3 := hid h3
          have hR := headM_rest (k := k) hn ⟨h1, h2, h3⟩
          clear hn h1 h2 h3
          by_cases hk : k = 0 ∧ (0 < f.params ∨ 0 < f.caps)
          · rw [if_pos hk] at hR
            have HR := hid hR
            clear hR
            obtain ⟨hk0, hk⟩ := hk
            have e0 : ((k : Int) == 0) = true := by simp [hk0]
            clear hk0
            rcases Int.lt_or_le 0 f.params with hp | hp
            · clear hk
              go_enter Try.func35, Try.ntmps35
              go_wp2_with first | (go_at_call 53; go_must (refine (HW _).mono ?_); rintro e w1 ⟨rfl, hk1⟩; rw [HN.out]; obtain ⟨c1, c2, c3⟩ := kp_at hk1 (w.heap.size + 1) (by simp); have HK1 := hid hk1; clear hk1) | (go_at_call 54; go_must (refine (within_any _ _ _ _).mono ?_); rintro e w9 ⟨rfl, rfl⟩; first | rw [H3.out] | rw [H2.out] | rw [H1.out])
              go_ret
              exact ⟨ret_int HR.out.symm, (HKA _).out.trans HK1.out⟩
            · have hp' : ¬ 0 < f.params := by omega
              have hc : 0 < f.caps := by rcases hk with h | h; · exact absurd h hp'
                                         · exact h
              clear hk hp
              go_enter Try.func35, Try.ntmps35
              go_wp2_with first | (go_at_call 53; go_must (refine (HW _).mono ?_); rintro e w1 ⟨rfl, hk1⟩; rw [HN.out]; obtain ⟨c1, c2, c3⟩ := kp_at hk1 (w.heap.size + 1) (by simp); have HK1 := hid hk1; clear hk1) | (go_at_call 54; go_must (refine (within_any _ _ _ _).mono ?_); rintro e w9 ⟨rfl, rfl⟩; first | rw [H3.out] | rw [H2.out] | rw [H1.out])
              go_ret
              exact ⟨ret_int HR.out.symm, (HKA _).out.trans HK1.out⟩
          · rw [if_neg hk] at hR
            have hlen : f.ins = [] ↔ f.ins.length = 0 := List.length_eq_zero_iff.symm
            have hk2 : (k = 0 ∧ ¬ 0 < f.params ∧ ¬ 0 < f.caps) ∨ k ≠ 0 := by omega
            have hR2 : (f.ins.length = 0 ∧ headM k f = 16) ∨ (f.ins.length ≠ 0 ∧ 20000 < f.ins.length ∧ headM k f = 15) ∨ (f.ins.length ≠ 0 ∧ ¬ 20000 < f.ins.length ∧ headM k f = 0) := by
              by_cases h0 : f.ins.length = 0
              · exact .inl ⟨h0, by rw [hR, if_pos (hlen.2 h0)]⟩
              · rw [if_neg (fun h => h0 (hlen.1 h))] at hR
                by_cases h5 : 20000 < f.ins.length
                · exact .inr (.inl ⟨h0, h5, by rw [hR, if_pos h5]⟩)
                · exact .inr (.inr ⟨h0, h5, by rw [hR, if_neg h5]⟩)
            clear hR hlen hk
            rcases hR2 with ⟨g1, hR⟩ | ⟨g1, g2, hR⟩ | ⟨g1, g2, hR⟩
            all_goals
              have HR := hid hR
              clear hR
              first
                | (have e1 : ((f.ins.length : Int) == 0) = true := by (simp only [beq_iff_eq]; omega))
                | (have e1 : ((f.ins.length : Int) == 0) = false := by (rw [beq_eq_false_iff_ne]; omega))
              first
                | (have e5 : (20000 : Int) < (f.ins.length : Int) := by omega)
                | (have e5 : ¬ (20000 : Int) < (f.ins.length : Int) := by omega)
              clear g1
              try clear g2
              rcases hk2 with ⟨hk0, hp, hc⟩ | hk0
              · have e0 : ((k : Int) == 0) = true := by simp [hk0]
                clear hk0
                go_enter Try.func35, Try.ntmps35
                go_wp2_with first | (go_at_call 53; go_must (refine (HW _).mono ?_); rintro e w1 ⟨rfl, hk1⟩; rw [HN.out]; obtain ⟨c1, c2, c3⟩ := kp_at hk1 (w.heap.size + 1) (by simp); have HK1 := hid hk1; clear hk1) | (go_at_call 54; go_must (refine (within_any _ _ _ _).mono ?_); rintro e w9 ⟨rfl, rfl⟩; first | rw [H3.out] | rw [H2.out] | rw [H1.out])
                go_ret
                exact ⟨ret_int HR.out.symm, (HKA _).out.trans HK1.out⟩
              · have e0 : ((k : Int) == 0) = false := by rw [beq_eq_false_iff_ne]; omega
                clear hk0
                go_enter Try.func35, Try.ntmps35
                go_wp2_with first | (go_at_call 53; go_must (refine (HW _).mono ?_); rintro e w1 ⟨rfl, hk1⟩; rw [HN.out]; obtain ⟨c1, c2, c3⟩ := kp_at hk1 (w.heap.size + 1) (by simp); have HK1 := hid hk1; clear hk1) | (go_at_call 54; go_must (refine (within_any _ _ _ _).mono ?_); rintro e w9 ⟨rfl, rfl⟩; first | rw [H3.out] | rw [H2.out] | rw [H1.out])
                go_ret
                exact ⟨ret_int HR.out.symm, (HKA _).out.trans HK1.out⟩
end Go.Proofs.Ytgonekmmbeedeaa
