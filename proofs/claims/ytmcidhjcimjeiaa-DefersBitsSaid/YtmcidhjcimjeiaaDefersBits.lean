/-
  The law DefersBits answers true for every mask and bit. No condition.
-/
import Derived.Test.YtmcidhjcimjeiaaRows
import Derived.Test.YtmcidhjcimjeiaaBits
import Derived.Test.YtmcidhjcimjeiaaSpot
namespace Go.Proofs.Ytmcidhjcimjeiaa.defersBits
open Go.ChangeShapes Go.WideShapes Go.ChangeAt Go.RowKit
open Go.ChangeMaps (open_string shut_string)
set_option linter.unusedVariables false

theorem own : ownKnob Try.prog.godebug = none := by kernel_rfl


theorem facts : ∀ m, m < 256 → ∀ k, k < 8 → (m ||| 2 ^ k) < 256 ∧ 0 < (m ||| 2 ^ k) ∧ k + 1 ≤ Lib.bitLen (m ||| 2 ^ k) ∧ (m ||| 2 ^ k) / 2 ^ k % 2 = 1 ∧ ((m ||| 2 ^ k) &&& (255 - 2 ^ k)) < 256 ∧
    ((m ||| 2 ^ k) &&& (255 - 2 ^ k)) / 2 ^ k % 2 = 0 ∧ (((m ||| 2 ^ k) &&& (255 - 2 ^ k)) ||| 2 ^ k) = (m ||| 2 ^ k) ∧ (m ||| 2 ^ k) = ((m ||| 2 ^ k) &&& (255 - 2 ^ k)) + 2 ^ k ∧ ((m ||| 2 ^ k) = m ∨ ((m ||| 2 ^ k) &&& (255 - 2 ^ k)) = m) ∧ Lib.bitLen (m ||| 2 ^ k) ≤ 8 ∧ 2 ^ k < 256 := by decide +kernel
theorem ne_of (M L p : Nat) (h : M = L + p) (hp : 0 < p) : ((M : Int) == L) = false := by simp; omega
set_option maxHeartbeats 1000000 in
theorem core (m k M L : Nat) (b : Nat) (p : Nat) (w : World) (a0 a1 : Int) (e0 : spotV a0 256 = m) (e1 : spotV a1 8 = k) (hm : m < 256) (hk : k < 8) (hM : (m ||| 2 ^ k) = M) (hL : (M &&& (255 - 2 ^ k)) = L) (hb : Lib.bitLen M = b) (hp : 2 ^ k = p) (hp2 : p < 256)
    (f1 : M < 256) (f2 : 0 < M) (f3 : k + 1 ≤ b) (f4 : M / 2 ^ k % 2 = 1) (f5 : L < 256) (f6 : L / 2 ^ k % 2 = 0) (f7 : (L ||| 2 ^ k) = M) (f8 : M = L + p) (f9 : M = m ∨ L = m) (f10 : b ≤ 8) :
    Calls Try.prog 4 #[.int .i64 a0, .int .i64 a1] w fun e w' => e = .returned (.bool true) ∧ Kp w w' := by
  have c1 := fun w => set_in m k w hm hk
  have c2 := fun w => set_in L k w f5 hk
  have c3 := fun w => drop_in M k w f1 hk f4
  have c4 := fun w => drop_none L k w f5 hk f6
  have c5 := fun w => top_in M w f1 f2
  rw [hM] at c1
  rw [f7] at c2
  rw [hL] at c3
  rw [hb] at c5
  have C1 := hid c1; have C2 := hid c2; have C3 := hid c3; have C4 := hid c4; have C5 := hid c5
  have g1 : ((M : Int) == M) = true := by simp
  have g2 : wrap64 ((M : Int) - L) = p := by unfold wrap64; omega
  have g3 : wrap64 (2 ^ k) = (p : Int) := by rw [← hp]; unfold wrap64; have : ((2 ^ k : Nat) : Int) = (2 : Int) ^ k := by simp
                                             omega
  have g4 : ((M : Int) == m || (L : Int) == m) = true := by rcases f9 with h | h <;> simp [h]
  have g5 : ¬ ((b : Int) - 1 < k) := by omega
  have hML := ne_of M L p f8 (by rw [← hp]; exact Nat.two_pow_pos k)
  have e0' := hid e0; have e1' := hid e1
  have hd : (p : Int) = (M : Int) - L := by omega
  have g6 : ((M : Int) - L == p) = true := by simp; omega
  clear c1 c2 c3 c4 c5 hM hL hb hp f4 f6 f7 f8 e0 e1 hd g2
  rcases f9 with rfl | rfl
  all_goals
    go_enter Try.func4, Try.ntmps4
    go_wp2_with fail
    refine (spot_any _ _ _ (by omega) (by omega)).mono ?_
    rintro e w' ⟨rfl, rfl⟩
    rw [e0'.out]
    go_wp2_with fail
    refine (spot_any _ _ _ (by omega) (by omega)).mono ?_
    rintro e w' ⟨rfl, rfl⟩
    rw [e1'.out]
    go_wp2_with fail
    refine (C1.out _).mono ?_
    rintro e w' ⟨rfl, rfl⟩
    go_wp2_with fail
    refine (C5.out _).mono ?_
    rintro e w' ⟨rfl, rfl⟩
    go_wp2_with fail
    refine (C3.out _).mono ?_
    rintro e w' ⟨rfl, rfl⟩
    go_wp2_with fail
    refine (C4.out _).mono ?_
    rintro e w' ⟨rfl, rfl⟩
    go_wp2_with fail
    refine (C2.out _).mono ?_
    rintro e w' ⟨rfl, rfl⟩
    go_wp2_with fail
    go_ret
    exact ⟨rfl, Kp.refl _⟩
theorem walk (a0 : Int) (a1 : Int) (w0 : (Lit.int .i64 a0).wf = true) (w1 : (Lit.int .i64 a1).wf = true) (w : World) :
    Calls Try.prog 4 #[.int .i64 a0, .int .i64 a1] w fun e w' => e = .returned (.bool true) ∧ Kp w w' := by
  have b0 := spotV_bd a0 256 (by omega)
  have b1 := spotV_bd a1 8 (by omega)
  obtain ⟨m, hm⟩ : ∃ m : Nat, spotV a0 256 = m := ⟨(spotV a0 256).toNat, by omega⟩
  obtain ⟨k, hk⟩ : ∃ k : Nat, spotV a1 8 = k := ⟨(spotV a1 8).toNat, by omega⟩
  have hml : m < 256 := by omega
  have hkl : k < 8 := by omega
  obtain ⟨f1, f2, f3, f4, f5, f6, f7, f8, f9, f10, f11⟩ := facts m hml k hkl
  exact core m k _ _ _ _ w a0 a1 hm hk hml hkl rfl rfl rfl rfl f11 f1 f2 f3 f4 f5 f6 f7 f8 f9 f10

/-! ### The row's step (the guide's frame, written by program) -/
set_option maxRecDepth 100000 in
theorem lifted (os : Os) (started : os.Started) (H : Type) (enc : TypeId × Value → H) :
    ReturnsInHanded {} Try.checked os 4 .any (Rows.defersBitsSpec.pre6 enc Try.prog Try.f4 Rows.defersBitsRow.domain false) (Rows.defersBitsSpec.post enc Try.prog Try.f4 false true false false) := by
  refine returnsInHanded_of_change (C := Try.checked) own started (by kernel_rfl) Try.func4
    (ChangeSpec.witness6 (enc := enc) (C := Try.checked) false ⟨#[], #[.int .i64 0, .int .i64 0], []⟩ 8 (by kernel_rfl) (by kernel_rfl) (by kernel_rfl) (by kernel_rfl)) ?_
  intro W base args ds gs before hval0 hW hcnd _
  have hval : ∀ (j : Nat) t v, Try.f4.params[j]? = some t → args[j]? = some v → Value.okWide Try.prog W .any base t v := hval0
  have hW' := hW
  obtain ⟨p, q, hA0, hV, rfl, hfz, hnd⟩ := hW
  have hA : DataW.TrodAll enc Try.prog W 0 (fun _ => true) true Try.f4.params.toList args.toList ds p := hA0
  rw [Try.params4] at hA hval
  obtain ⟨v0, vs0, d0, ds0, p0, q0, hargs, rfl, rfl, h0, r0⟩ := trodAll_cons hA
  obtain ⟨v1, vs1, d1, ds1, p1, q1, rfl, rfl, rfl, h1, r1⟩ := trodAll_cons r0
  obtain ⟨rfl, rfl, rfl⟩ := trodAll_nil r1
  obtain rfl : args = #[v0, v1] := by cases args; simp_all
  obtain ⟨rfl, rfl⟩ := trodVars_none hV
  obtain ⟨a0, rfl, rfl, rfl, w0⟩ := open_int Try.underlying3 (hval 0 3 v0 rfl rfl) h0
  obtain ⟨a1, rfl, rfl, rfl, w1⟩ := open_int Try.underlying3 (hval 1 3 v1 rfl rfl) h1
  clear hA0 hval0
  simp only [List.append_nil] at hW'
  refine (walk a0 a1 w0 w1 W).mono fun e W' ⟨he, bel⟩ => ?_
  subst he
  exact ⟨_, rfl, _, _, _, [], _, [], hW', trodAll_mk1 (shut_bool Try.underlying4 _), (trodAll_cons_mk (shut_int Try.underlying3 w0) (trodAll_cons_mk (shut_int Try.underlying3 w1) trodAll_mk0)), rfl, Below.frame bel _, fun h => by cases h⟩

theorem over : Rows.defersBitsRow.holds Try.pinned (OpenSpec.ofChange Rows.defersBitsSpec) :=
  OpenClaim.holds_of_wide 4 Try.f4 rfl rfl rfl rfl rfl rfl rfl ⟨rfl, rfl, rfl, rfl, rfl⟩ rfl rfl rfl rfl rfl (by kernel_rfl) Try.func4 (by kernel_rfl)
    (of_decide_eq_true (by kernel_rfl)) (by unfold Func.isWrapper; rw [if_neg (of_decide_eq_false (by kernel_rfl))]; exact ⟨rfl, rfl⟩)
    (fun os started H enc _ => lifted os started H enc)

/-- THE STATEMENT. -/
theorem proved : Rows.DefersBitsSaid := over
#print axioms proved

end Go.Proofs.Ytmcidhjcimjeiaa.defersBits
