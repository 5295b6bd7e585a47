/-
  The law TypesBack answers true for every text. No condition.
-/
import Derived.SizedLaws
import Derived.Deep.CondSized
import Derived.Test.YtmcidhjcimjeiaaRows
import Derived.Test.YtmcidhjcimjeiaaTypesH
namespace Go.Proofs.Ytmcidhjcimjeiaa.typesBack
open Go.ChangeShapes Go.WideShapes Go.ChangeAt Go.RowKit
open Go.ChangeMaps (open_string shut_string)
set_option linter.unusedVariables false

theorem own : ownKnob Try.prog.godebug = none := by kernel_rfl
theorem laidOut : laidOutB Try.prog = true := by kernel_rfl


set_option maxRecDepth 20000 in
set_option maxHeartbeats 4000000 in
theorem walk (a0 : ByteArray) (w : World) (w0 : a0.size ≤ 140737488351232) :
    Calls Try.prog 13 #[.string a0] w fun e w' => e = .returned (.bool true) ∧ Kp w w' := by
  have hS := w0
  clear w0
  have q1 := const_parts
  have Q1 := hid q1
  clear q1
  have HB1 := hid (bs_self a0)
  cases hz : partsM a0.data.toList with
  | none =>
    have HZ := hid hz
    clear hz
    go_enter Try.func13, Try.ntmps13
    go_wp2_with fail
    refine ((params_any _ a0 hS).mono fun _ _ h => h.no HZ.out).mono ?_
    rintro e w1 ⟨rfl, k1⟩
    go_wp2_with fail
    refine ((result_any _ a0 hS).mono fun _ _ h => h.no HZ.out).mono ?_
    rintro e w2 ⟨rfl, k2⟩
    go_wp2_with fail
    refine ((result_any _ ⟨#[102, 117, 110, 99, 40, 41, 102, 117, 110, 99, 40, 105, 110, 116, 41, 97, 110, 121]⟩ (by decide)).mono fun _ _ h => h.yes Q1.out).mono ?_
    rintro e w3 ⟨rfl, k3⟩
    simp only [bsB]
    go_wp2_with fail
    go_ret
    exact ⟨rfl, (k1.trans k2).trans k3⟩
  | some qs =>
    obtain ⟨ps, q, rfl, _⟩ := parts_back hz
    have HZ := hid hz
    obtain ⟨hf, hv, h4, hpl, hql⟩ := func_back hz
    have HF := hid hf; have HV := hid hv
    have hsz : ∀ x ∈ ps.map bsB, x.size ≤ 140737488351232 := by
      intro x hx
      obtain ⟨p, hp, rfl⟩ := List.mem_map.1 hx
      rw [bs_size]; have := hpl p hp; omega
    have HSZ := hid hsz
    have hq2 : (bsB q).size ≤ 140737488351232 := by rw [bs_size]; omega
    have HQ2 := hid hq2
    have hl2 : (ps.map bsB).length ≤ 140737488351232 := by rw [List.length_map]; omega
    have HL2 := hid hl2
    clear hz hf hv hpl hql hsz hq2 hl2
    go_enter Try.func13, Try.ntmps13
    go_wp2_with fail
    refine ((params_any _ a0 hS).mono fun _ _ h => h.yes HZ.out).mono ?_
    rintro e w1 ⟨v, rfl, hown, k1, _⟩
    have HO := hid hown
    clear hown
    go_wp2_with fail
    refine ((result_any _ a0 hS).mono fun _ _ h => h.yes HZ.out).mono ?_
    rintro e w2 ⟨rfl, k2⟩
    go_wp2_with fail
    refine ((result_any _ ⟨#[102, 117, 110, 99, 40, 41, 102, 117, 110, 99, 40, 105, 110, 116, 41, 97, 110, 121]⟩ (by decide)).mono fun _ _ h => h.yes Q1.out).mono ?_
    rintro e w3 ⟨rfl, k3⟩
    simp only [bsB]
    go_wp2_with fail
    refine (func_any _ v (ps.map bsB) (bsB q) (((rd_own HO.out).kp k2).kp k3) HSZ.out HQ2.out HL2.out).mono ?_
    rintro e w4 ⟨rfl, k4⟩
    rw [HF.out, HB1.out]
    go_wp2_with fail
    refine (valid_any _ a0 hS).mono ?_
    rintro e w5 ⟨rfl, k5⟩
    rw [HV.out]
    go_wp2_with fail
    go_ret
    exact ⟨rfl, (((k1.trans k2).trans k3).trans k4).trans k5⟩

/-! ### The row's step (the guide's frame, written by program) -/
set_option maxRecDepth 100000 in
theorem lifted (os : Os) (started : os.Started) (H : Type) (enc : TypeId × Value → H) :
    ReturnsInHanded {} Try.checked os 13 .any (Rows.typesBackSpec.pre6 enc Try.prog Try.f13 Rows.typesBackRow.domain false) (Rows.typesBackSpec.post enc Try.prog Try.f13 false true false false) := by
  refine returnsInHanded_of_change_sized (C := Try.checked) own started (by kernel_rfl) Try.func13
    (ChangeSpec.witness6 (enc := enc) (C := Try.checked) false ⟨#[], #[.string ⟨#[]⟩], []⟩ 8 (by kernel_rfl) (by kernel_rfl) (by kernel_rfl) (by kernel_rfl)) ?_
  intro W base args ds gs before hval0 hW _ hsz0 _
  have hsz : (DataW.weightsEach Try.prog (Try.f13.params.toList ++ Rows.typesBackSpec.plain.varTypes Try.prog) (ds ++ gs)).all (· ≤ reachBytes) = true := hsz0
  clear hsz0
  have hval : ∀ (j : Nat) t v, Try.f13.params[j]? = some t → args[j]? = some v → Value.okWide Try.prog W .any base t v := hval0
  have hW' := hW
  obtain ⟨p, q, hA0, hV, rfl, hfz, hnd⟩ := hW
  have hA : DataW.TrodAll enc Try.prog W 0 (fun _ => true) true Try.f13.params.toList args.toList ds p := hA0
  rw [Try.params13] at hA hval hsz
  obtain ⟨v0, vs0, d0, ds0, p0, q0, hargs, rfl, rfl, h0, r0⟩ := trodAll_cons hA
  obtain ⟨rfl, rfl, rfl⟩ := trodAll_nil r0
  obtain rfl : args = #[v0] := by cases args; simp_all
  obtain ⟨rfl, rfl⟩ := trodVars_none hV
  have k0 := h0
  have lt0 : ∀ x ∈ p0, x.block < W.heap.size := by obtain ⟨m, hm⟩ := k0; exact DataW.trod_lt m _ _ _ hm
  have hz0 : ∀ n ∈ DataW.weights Try.prog 9 d0, n ≤ reachBytes := fun n hn => by
    have := List.all_eq_true.1 hsz _ (DataW.weights_mem_each (j := 0) rfl rfl n hn)
    simpa using this
  obtain ⟨a0, rfl, rfl, rfl, ws0⟩ := open_string Try.underlying9 (hval 0 9 v0 rfl rfl) h0
  have w0 : a0.size ≤ 140737488351232 := by
    have h := hz0 a0.data.toList.length (by simp [DataW.weights])
    rw [Array.length_toList] at h; exact h
  clear hA0 hval0
  simp only [List.append_nil] at hW'
  refine (walk a0 W w0).mono fun e W' ⟨he, bel⟩ => ?_
  subst he
  exact ⟨_, rfl, _, _, _, [], _, [], hW', trodAll_mk1 (shut_bool Try.underlying4 _), (trodAll_cons_mk (Below.trod laidOut (by kernel_rfl) (of_decide_eq_true (by kernel_rfl)) k0 bel lt0) trodAll_mk0), rfl, Below.frame bel _, fun h => by cases h⟩

theorem over : Rows.typesBackRow.holds Try.pinned (OpenSpec.ofChange Rows.typesBackSpec) :=
  OpenClaim.holds_of_wide 13 Try.f13 rfl rfl rfl rfl rfl rfl rfl ⟨rfl, rfl, rfl, rfl, rfl⟩ rfl rfl rfl rfl rfl (by kernel_rfl) Try.func13 (by kernel_rfl)
    (of_decide_eq_true (by kernel_rfl)) (by unfold Func.isWrapper; rw [if_neg (of_decide_eq_false (by kernel_rfl))]; exact ⟨rfl, rfl⟩)
    (fun os started H enc _ => lifted os started H enc)

/-- THE STATEMENT. -/
theorem proved : Rows.TypesBackSaid := over
#print axioms proved

end Go.Proofs.Ytmcidhjcimjeiaa.typesBack
