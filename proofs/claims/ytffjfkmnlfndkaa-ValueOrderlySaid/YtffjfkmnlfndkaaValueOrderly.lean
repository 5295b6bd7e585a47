/-
  The law ValueOrderly answers true for all values. No condition.
-/
import Derived.SizedLaws
import Derived.Test.YtffjfkmnlfndkaaRows
import Derived.Test.YtffjfkmnlfndkaaHeld
import Derived.IntWalk
namespace Go.Proofs.Ytffjfkmnlfndkaa.valueOrderly
open Go.ChangeShapes Go.WideShapes Go.ChangeAt Go.RowKit
open Go.ChangeMaps (open_string shut_string)
set_option linter.unusedVariables false

theorem own : ownKnob Try.prog.godebug = none := by kernel_rfl
theorem laidOut : laidOutB Try.prog = true := by kernel_rfl


set_option maxHeartbeats 2000000 in
theorem walk (v0 : Value) (a0 : ValM) (v1 : Value) (a1 : ValM) (v2 : Value) (a2 : ValM) (w : World) (w0 : RdVal w v0 a0) (w1 : RdVal w v1 a1) (w2 : RdVal w v2 a2) :
    Calls Try.prog 9 #[v0, v1, v2] w fun e w' => e = .returned (.bool true) ∧ Kp w w' := by
  have R0 := hid w0; have R1 := hid w1; have R2 := hid w2
  obtain ⟨l0, rfl, _⟩ := w0
  obtain ⟨l1, rfl, _⟩ := w1
  obtain ⟨l2, rfl, _⟩ := w2
  go_enter Try.func9, Try.ntmps9
  go_wp2_with fail
  have F := Held3.mk w a0 a1 a2 l0 l1 l2
  generalize (((w.alloc (.cells #[.int .i64 a0.k, .int .i64 a0.n, .string a0.s, l0] 53)).alloc (.cells #[.int .i64 a1.k, .int .i64 a1.n, .string a1.s, l1] 53)).alloc (.cells #[.int .i64 a2.k, .int .i64 a2.n, .string a2.s, l2] 53)) = W0 at F ⊢
  have F0' : Held3 w a0 a1 a2 l0 l1 l2 (World.drew _) := F.kp (Kp.refl _).drew
  go_region_held3 (Held3 w a0 a1 a2 l0 l1 l2) (first | exact F0' | exact Held3.kp (by assumption) (by assumption)) (first
    | (go_at_call 29; refine (own_h (by assumption) (by assumption)).mono ?_; rintro e w1 ⟨v1, rfl, hr, hk⟩)
    | (go_at_call 28; refine (order_h (by assumption) (by assumption) (by assumption)).mono ?_; rintro e w1 ⟨rfl, hk⟩))
  rename_i H1
  go_wp2_with fail
  have F1' : Held3 w a0 a1 a2 l0 l1 l2 (World.drew _) := H1.kp (Kp.refl _).drew
  go_region_held3 (Held3 w a0 a1 a2 l0 l1 l2) (first | exact F1' | exact Held3.kp (by assumption) (by assumption)) (first
    | (go_at_call 29; refine (own_h (by assumption) (by assumption)).mono ?_; rintro e w1 ⟨v1, rfl, hr, hk⟩)
    | (go_at_call 28; refine (order_h (by assumption) (by assumption) (by assumption)).mono ?_; rintro e w1 ⟨rfl, hk⟩))
  rename_i H2
  go_wp2_with fail
  have F2' : Held3 w a0 a1 a2 l0 l1 l2 (World.drew _) := H2.kp (Kp.refl _).drew
  go_region_held3 (Held3 w a0 a1 a2 l0 l1 l2) (first | exact F2' | exact Held3.kp (by assumption) (by assumption)) (first
    | (go_at_call 29; refine (own_h (by assumption) (by assumption)).mono ?_; rintro e w1 ⟨v1, rfl, hr, hk⟩)
    | (go_at_call 28; refine (order_h (by assumption) (by assumption) (by assumption)).mono ?_; rintro e w1 ⟨rfl, hk⟩))
  rename_i H3
  go_wp2_with fail
  have F3' : Held3 w a0 a1 a2 l0 l1 l2 (World.drew _) := H3.kp (Kp.refl _).drew
  go_region_held3 (Held3 w a0 a1 a2 l0 l1 l2) (first | exact F3' | exact Held3.kp (by assumption) (by assumption)) (first
    | (go_at_call 29; refine (own_h (by assumption) (by assumption)).mono ?_; rintro e w1 ⟨v1, rfl, hr, hk⟩)
    | (go_at_call 28; refine (order_h (by assumption) (by assumption) (by assumption)).mono ?_; rintro e w1 ⟨rfl, hk⟩))
  rename_i H4
  go_wp2_with fail
  go_must (refine (order_any _ _ ⟨3, 0, ⟨#[]⟩, []⟩ ⟨3, 0, ⟨#[97]⟩, []⟩ _ ⟨_, rfl, RdInts.nil_ _, by unfold okI; decide, by unfold okI; decide, by decide, by decide⟩ ⟨_, rfl, RdInts.nil_ _, by unfold okI; decide, by unfold okI; decide, by decide, by decide⟩).mono ?_)
  rintro e w5 ⟨rfl, hk5⟩
  rw [show ordM ⟨3, 0, ⟨#[]⟩, []⟩ ⟨3, 0, ⟨#[97]⟩, []⟩ = -1 by decide +kernel, show ordEM ⟨3, 0, ⟨#[]⟩, []⟩ ⟨3, 0, ⟨#[97]⟩, []⟩ = 0 by decide +kernel]
  have H5 := H4.kp hk5
  have r1 := ord_range a0 a1
  have r2 := ord_range a1 a0
  have q1 := ord_anti a0 a1
  have q2 := ord_e a0 a1
  have q3 := @ord_same a0 a1
  have q4 := @ord_trans a0 a1 a2
  clear F F0' F1' F2' F3' H1 H2 H3 H4
  generalize ordM a0 a1 = x at *
  generalize ordM a1 a0 = y at *
  generalize ordM a1 a2 = z at *
  generalize ordM a0 a2 = u at *
  generalize ordEM a0 a1 = e at *
  generalize ordEM a1 a0 = f at *
  generalize ordEM a1 a2 = g at *
  generalize ordEM a0 a2 = h at *
  subst q2
  obtain rfl : y = -x := by omega
  have e3 : IntKind.i64.wrap (-x) = -x := IntWalk.i64_in _ (by omega)
  have e4 : IntKind.i64.wrap x = x := IntWalk.i64_in _ (by omega)
  have e5 : (x != x) = false := by simp
  have F5 : Held3 w a0 a1 a2 l0 l1 l2 (World.drew w5) := H5.kp (Kp.refl _).drew
  have Q4 := hid q4
  clear r1 r2 q1 q4
  by_cases he : e = 0
  · have e2 : ((x == 0) == sameM a0 a1) = true := by simp [q3 he]
    subst he
    clear q3
    go_wp2_with fail
    go_region_held3 (Held3 w a0 a1 a2 l0 l1 l2) (first | exact F5 | exact Held3.kp (by assumption) (by assumption)) (first
      | (go_at_call 29; refine (own_h (by assumption) (by assumption)).mono ?_; rintro e w1 ⟨v1, rfl, hr, hk⟩)
      | (go_at_call 30; refine (same_h (by assumption) (by assumption) (by assumption)).mono ?_; rintro e w1 ⟨rfl, hk⟩))
    rename_i HL
    clear e2 e3 e4 e5
    by_cases hg : g = 0
    · subst hg
      by_cases hx : x > 0
      · have d1 : decide (x > 0) = true := by simp [hx]
        clear hx
        go_wp2_with fail
        go_ret
        exact ⟨rfl, HL.2.2.2.1⟩
      · have d1 : decide (x > 0) = false := by simp [hx]
        by_cases hz : z > 0
        · have d2 : decide (z > 0) = true := by simp [hz]
          clear hx hz
          go_wp2_with fail
          go_ret
          exact ⟨rfl, HL.2.2.2.1⟩
        · have d2 : decide (z > 0) = false := by simp [hz]
          obtain ⟨rfl, q5, q6⟩ := Q4.out (by trivial) (by trivial) (by omega) (by omega)
          have d3 : decide (u ≤ 0) = true := by simp [q5]
          by_cases hu : u = 0
          · obtain ⟨rfl, rfl⟩ := q6.1 hu
            subst hu
            clear d1 d2 d3 q5 q6 hx hz
            go_wp2_with fail
            go_ret
            exact ⟨rfl, HL.2.2.2.1⟩
          · have d4 : (u == 0) = false := by simp [hu]
            by_cases hx0 : x = 0
            · subst hx0
              have d5 : (z == 0) = false := by simp; intro h; exact hu (q6.2 ⟨rfl, h⟩)
              clear q5 q6 hu hx hz
              go_wp2_with fail
              go_ret
              exact ⟨rfl, HL.2.2.2.1⟩
            · have d5 : (x == 0) = false := by simp [hx0]
              clear q5 q6 hu hx hz hx0
              go_wp2_with fail
              go_ret
              exact ⟨rfl, HL.2.2.2.1⟩
    · have g1 : (g == 0) = false := by simp [hg]
      have g1' : (g != 0) = true := by simp [hg]
      clear hg
      go_wp2_with fail
      go_ret
      exact ⟨rfl, HL.2.2.2.1⟩
  · have e1 : (e == 0) = false := by simp [he]
    have e1' : (e != 0) = true := by simp [he]
    clear q3 he
    go_wp2_with fail
    go_quiet (fail)
    clear e3 e4 e5
    go_wp2_with fail
    go_ret
    exact ⟨rfl, Kp.drewN H5.2.2.2.1 _⟩

/-! ### The row's step (the guide's frame, written by program) -/
set_option maxRecDepth 100000 in
theorem lifted (os : Os) (started : os.Started) (H : Type) (enc : TypeId × Value → H) :
    ReturnsInHanded {} Try.checked os 9 .any (Rows.valueOrderlySpec.pre6 enc Try.prog Try.f9 Rows.valueOrderlyRow.domain false) (Rows.valueOrderlySpec.post enc Try.prog Try.f9 false true false false) := by
  refine returnsInHanded_of_change_sized (C := Try.checked) own started (by kernel_rfl) Try.func9
    (ChangeSpec.witness6 (enc := enc) (C := Try.checked) false ⟨#[], #[.agg #[.int .i64 0, .int .i64 0, .string ⟨#[]⟩, .slice none 0 0], .agg #[.int .i64 0, .int .i64 0, .string ⟨#[]⟩, .slice none 0 0], .agg #[.int .i64 0, .int .i64 0, .string ⟨#[]⟩, .slice none 0 0]], []⟩ 8 (by kernel_rfl) (by kernel_rfl) (by kernel_rfl) (by kernel_rfl)) ?_
  intro W base args ds gs before hval0 hW _ hsz0 _
  have hsz : (DataW.weightsEach Try.prog (Try.f9.params.toList ++ Rows.valueOrderlySpec.plain.varTypes Try.prog) (ds ++ gs)).all (· ≤ reachBytes) = true := hsz0
  clear hsz0
  have hval : ∀ (j : Nat) t v, Try.f9.params[j]? = some t → args[j]? = some v → Value.okWide Try.prog W .any base t v := hval0
  have hW' := hW
  obtain ⟨p, q, hA0, hV, rfl, hfz, hnd⟩ := hW
  have hA : DataW.TrodAll enc Try.prog W 0 (fun _ => true) true Try.f9.params.toList args.toList ds p := hA0
  rw [Try.params9] at hA hval hsz
  obtain ⟨v0, vs0, d0, ds0, p0, q0, hargs, rfl, rfl, h0, r0⟩ := trodAll_cons hA
  obtain ⟨v1, vs1, d1, ds1, p1, q1, rfl, rfl, rfl, h1, r1⟩ := trodAll_cons r0
  obtain ⟨v2, vs2, d2, ds2, p2, q2, rfl, rfl, rfl, h2, r2⟩ := trodAll_cons r1
  obtain ⟨rfl, rfl, rfl⟩ := trodAll_nil r2
  obtain rfl : args = #[v0, v1, v2] := by cases args; simp_all
  obtain ⟨rfl, rfl⟩ := trodVars_none hV
  have k0 := h0
  have lt0 : ∀ x ∈ p0, x.block < W.heap.size := by obtain ⟨m, hm⟩ := k0; exact DataW.trod_lt m _ _ _ hm
  have hz0 : ∀ n ∈ DataW.weights Try.prog 53 d0, n ≤ reachBytes := fun n hn => by
    have := List.all_eq_true.1 hsz _ (DataW.weights_mem_each (j := 0) rfl rfl n hn)
    simpa using this
  obtain ⟨a0, w0⟩ := open_value (hval 0 53 v0 rfl rfl) h0 hz0
  have k1 := h1
  have lt1 : ∀ x ∈ p1, x.block < W.heap.size := by obtain ⟨m, hm⟩ := k1; exact DataW.trod_lt m _ _ _ hm
  have hz1 : ∀ n ∈ DataW.weights Try.prog 53 d1, n ≤ reachBytes := fun n hn => by
    have := List.all_eq_true.1 hsz _ (DataW.weights_mem_each (j := 1) rfl rfl n hn)
    simpa using this
  obtain ⟨a1, w1⟩ := open_value (hval 1 53 v1 rfl rfl) h1 hz1
  have k2 := h2
  have lt2 : ∀ x ∈ p2, x.block < W.heap.size := by obtain ⟨m, hm⟩ := k2; exact DataW.trod_lt m _ _ _ hm
  have hz2 : ∀ n ∈ DataW.weights Try.prog 53 d2, n ≤ reachBytes := fun n hn => by
    have := List.all_eq_true.1 hsz _ (DataW.weights_mem_each (j := 2) rfl rfl n hn)
    simpa using this
  obtain ⟨a2, w2⟩ := open_value (hval 2 53 v2 rfl rfl) h2 hz2
  clear hA0 hval0
  simp only [List.append_nil] at hW'
  refine (walk v0 a0 v1 a1 v2 a2 W w0 w1 w2).mono fun e W' ⟨he, bel⟩ => ?_
  subst he
  exact ⟨_, rfl, _, _, _, [], _, [], hW', trodAll_mk1 (shut_bool Try.underlying4 _), (trodAll_cons_mk (Below.trod laidOut (by kernel_rfl) (of_decide_eq_true (by kernel_rfl)) k0 bel lt0) (trodAll_cons_mk (Below.trod laidOut (by kernel_rfl) (of_decide_eq_true (by kernel_rfl)) k1 bel lt1) (trodAll_cons_mk (Below.trod laidOut (by kernel_rfl) (of_decide_eq_true (by kernel_rfl)) k2 bel lt2) trodAll_mk0))), rfl, Below.frame bel _, fun h => by cases h⟩

theorem over : Rows.valueOrderlyRow.holds Try.pinned (OpenSpec.ofChange Rows.valueOrderlySpec) :=
  OpenClaim.holds_of_wide 9 Try.f9 rfl rfl rfl rfl rfl rfl rfl ⟨rfl, rfl, rfl, rfl, rfl⟩ rfl rfl rfl rfl rfl (by kernel_rfl) Try.func9 (by kernel_rfl)
    (of_decide_eq_true (by kernel_rfl)) (by unfold Func.isWrapper; rw [if_neg (of_decide_eq_false (by kernel_rfl))]; exact ⟨rfl, rfl⟩)
    (fun os started H enc _ => lifted os started H enc)

/-- THE STATEMENT. -/
theorem proved : Rows.ValueOrderlySaid := over
#print axioms proved

end Go.Proofs.Ytffjfkmnlfndkaa.valueOrderly
