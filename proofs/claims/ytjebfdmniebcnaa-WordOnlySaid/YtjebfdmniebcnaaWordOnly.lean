/-
  The law WordOnly answers true for every text. No condition.
-/
import Derived.Test.YtjebfdmniebcnaaRead
namespace Go.Proofs.Ytjebfdmniebcnaa.wordOnly
open Go.ChangeShapes Go.WideShapes Go.ChangeAt Go.RowKit
open Go.ChangeMaps (open_string shut_string)
set_option linter.unusedVariables false

theorem own : ownKnob Try.prog.godebug = none := by kernel_rfl


theorem m70 : (⟨#[45, 55, 48]⟩ : ByteArray) = ⟨(Lib.itoa (-70)).toArray⟩ := by
  have : Lib.itoa (-70) = [45, 55, 48] := by
    unfold Lib.itoa; rw [if_pos (by omega), show (-70 : Int).natAbs = 70 by rfl, dec_big 70 (by omega), dec_small (70 / 10) (by omega)]; rfl
  rw [this]
set_option maxHeartbeats 400000 in
theorem read_m70 (w : World) : Calls Try.prog 22 #[.string ⟨#[45, 55, 48]⟩] w fun e w' => e = .returned (.tuple #[.int .i64 (-70), .int .i64 0]) ∧ Kp w w' := by
  rw [m70]; exact read_hit (-70) w (by omega)
set_option maxHeartbeats 400000 in
theorem walk (a0 : ByteArray) (w0 : a0.size ≤ maxLen) (w : World) :
    Calls Try.prog 10 #[.string a0] w fun e w' => e = .returned (.bool true) ∧ Kp w w' := by
  by_cases h : NoNum a0
  · go_enter Try.func10, Try.ntmps10
    go_wp2_with fail
    refine (read_miss a0 _ h w0).mono ?_
    rintro e w1 ⟨rfl, hk1⟩
    go_wp2_with fail
    refine (read_m70 _).mono ?_
    rintro e w2 ⟨rfl, hk2⟩
    clear h
    go_wp2_with fail
    go_ret
    exact ⟨rfl, hk1.trans hk2⟩
  · obtain ⟨n, hn, heq⟩ : ∃ n : Int, (-9223372036854775808 ≤ n ∧ n ≤ 9223372036854775807) ∧ (Lib.itoa n == a0.toList) = true := by
      apply Classical.byContradiction
      intro hno; apply h; intro n hn
      cases hx : (Lib.itoa n == a0.toList)
      · rfl
      · exact absurd ⟨n, hn, hx⟩ hno
    obtain rfl : a0 = ⟨(Lib.itoa n).toArray⟩ := by
      have h2 : Lib.itoa n = a0.toList := by simpa using heq
      rw [h2, ByteArray.toList_eq]
    clear h heq w0
    go_enter Try.func10, Try.ntmps10
    go_wp2_with fail
    refine (read_hit n _ hn).mono ?_
    rintro e w1 ⟨rfl, hk1⟩
    go_wp2_with fail
    refine (read_m70 _).mono ?_
    rintro e w2 ⟨rfl, hk2⟩
    go_wp2_with (go_at_call 23; refine (text_any _ _ hn).mono ?_; rintro e w3 ⟨rfl, hk3⟩)
    go_ret
    exact ⟨rfl, (hk1.trans hk2).trans hk3⟩

/-! ### The row's step (the guide's frame, written by program) -/
set_option maxRecDepth 100000 in
theorem lifted (os : Os) (started : os.Started) (H : Type) (enc : TypeId × Value → H) :
    ReturnsInHanded {} Try.checked os 10 .any (Rows.wordOnlySpec.pre6 enc Try.prog Try.f10 Rows.wordOnlyRow.domain false) (Rows.wordOnlySpec.post enc Try.prog Try.f10 false true false false) := by
  refine returnsInHanded_of_change (C := Try.checked) own started (by kernel_rfl) Try.func10
    (ChangeSpec.witness6 (enc := enc) (C := Try.checked) false ⟨#[], #[.string ⟨#[]⟩], []⟩ 8 (by kernel_rfl) (by kernel_rfl) (by kernel_rfl) (by kernel_rfl)) ?_
  intro W base args ds gs before hval0 hW hcnd _
  have hval : ∀ (j : Nat) t v, Try.f10.params[j]? = some t → args[j]? = some v → Value.okWide Try.prog W .any base t v := hval0
  have hW' := hW
  obtain ⟨p, q, hA0, hV, rfl, hfz, hnd⟩ := hW
  have hA : DataW.TrodAll enc Try.prog W 0 (fun _ => true) true Try.f10.params.toList args.toList ds p := hA0
  rw [Try.params10] at hA hval
  obtain ⟨v0, vs0, d0, ds0, p0, q0, hargs, rfl, rfl, h0, r0⟩ := trodAll_cons hA
  obtain ⟨rfl, rfl, rfl⟩ := trodAll_nil r0
  obtain rfl : args = #[v0] := by cases args; simp_all
  obtain ⟨rfl, rfl⟩ := trodVars_none hV
  obtain ⟨a0, rfl, rfl, rfl, w0⟩ := open_string Try.underlying9 (hval 0 9 v0 rfl rfl) h0
  clear hA0 hval0
  simp only [List.append_nil] at hW'
  refine (walk a0 w0 W).mono fun e W' ⟨he, bel⟩ => ?_
  subst he
  exact ⟨_, rfl, _, _, _, [], _, [], hW', trodAll_mk1 (shut_bool Try.underlying4 _), (trodAll_cons_mk (shut_string Try.underlying9 w0) trodAll_mk0), rfl, Below.frame bel _, fun h => by cases h⟩

theorem over : Rows.wordOnlyRow.holds Try.pinned (OpenSpec.ofChange Rows.wordOnlySpec) :=
  OpenClaim.holds_of_wide 10 Try.f10 rfl rfl rfl rfl rfl rfl rfl ⟨rfl, rfl, rfl, rfl, rfl⟩ rfl rfl rfl rfl rfl (by kernel_rfl) Try.func10 (by kernel_rfl)
    (of_decide_eq_true (by kernel_rfl)) (by unfold Func.isWrapper; rw [if_neg (of_decide_eq_false (by kernel_rfl))]; exact ⟨rfl, rfl⟩)
    (fun os started H enc _ => lifted os started H enc)

/-- THE STATEMENT. -/
theorem proved : Rows.WordOnlySaid := over
#print axioms proved

end Go.Proofs.Ytjebfdmniebcnaa.wordOnly
