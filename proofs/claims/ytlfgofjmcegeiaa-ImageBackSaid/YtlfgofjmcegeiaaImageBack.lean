/-
  The law ImageBack answers true for every code. No condition.
-/
import Derived.SizedLaws
import Derived.Deep.CondSized
import Derived.Test.YtlfgofjmcegeiaaRows
import Derived.Test.YtlfgofjmcegeiaaCodeT
import Derived.Test.YtlfgofjmcegeiaaImgPk
import Derived.Test.YtlfgofjmcegeiaaImgU
namespace Go.Proofs.Ytlfgofjmcegeiaa.imageBack
open Go.ChangeShapes Go.WideShapes Go.ChangeAt Go.RowKit
open Go.ChangeMaps (open_string shut_string)
set_option linter.unusedVariables false
set_option linter.unusedSimpArgs false

theorem own : ownKnob Try.prog.godebug = none := by kernel_rfl
theorem laidOut : laidOutB Try.prog = true := by kernel_rfl


@[go_sem] theorem field_fix0 (x0 x1 x2 : Value) (w : World) : Sem.run Try.prog (Instr.field 65 (.agg #[x0, x1, x2]) 0) w = .ok x0 w := by kernel_rfl
theorem pack_least_len : 10 ≤ (packB leastM).length := by
  rw [pack_len]
  have h : 1 ≤ (encC leastM).length := by unfold encC; rw [List.length_append]; have := encN_pos (leastM.texts.length : Int); omega
  rw [List.length_append]
  have : headB.length = 5 := rfl
  omega
theorem pack_len_le {c : CodeM} (hs : (soundM c).1 = 0) (ho : okNums c) : (packB c).length ≤ 500000004 := by
  have h := (pack_bound hs ho).2.2.2 c.funcs.length
  rw [packF_all] at h
  rw [pack_len]; omega
/-- Pack of the least code. -/
theorem pack_least : ∃ X : List UInt8, X = packB leastM ∧ 10 ≤ X.length ∧ X.length ≤ 500000004 ∧ ∀ (w : World) (v : Value), RdCode w v leastM → Calls Try.prog 24 #[v] w fun e w' => (∃ A c, e = .returned (.tuple #[.slice A X.length c, .int .i64 0]) ∧ OwnB w' w.heap.size (.slice A X.length c) X) ∧ Kp w w' := by
  have ho : okNums leastM := fun f hf i hi => by
    unfold leastM at hf; simp at hf; subst hf; simp at hi; subst hi
    exact ⟨⟨by decide, by decide⟩, ⟨by decide, by decide⟩, ⟨by decide, by decide⟩, ⟨by decide, by decide⟩, ⟨by decide, by decide⟩, ⟨by decide, by decide⟩⟩
  have hs : (soundM leastM).1 = 0 := by rw [least_sound]
  refine ⟨_, rfl, pack_least_len, pack_len_le hs ho, fun w v h => (pack_ok w v leastM h hs).mono ?_⟩
  rintro e w' ⟨⟨v', rfl, hown⟩, hk⟩
  obtain ⟨A, c, rfl⟩ := own_form hown
  exact ⟨⟨A, c, rfl, hown⟩, hk⟩
set_option maxRecDepth 20000 in
set_option maxHeartbeats 8000000 in
theorem walk (v0 : Value) (a0 : CodeM) (w : World) (w0 : RdCode w v0 a0) :
    Calls Try.prog 11 #[v0] w fun e w' => e = .returned (.bool true) ∧ Kp w w' := by
  have HC := hid w0
  obtain ⟨lf, lt, rfl, hf, hfl, ht, htl⟩ := w0
  obtain ⟨Af, cf, rfl, _⟩ := hf.form
  obtain ⟨At, ct, rfl, _⟩ := ht.form
  have HON := hid (okNums_of hf)
  clear hf hfl ht htl
  have HKA := hid (show Kp w (w.alloc (.cells #[.slice Af a0.funcs.length cf, .slice At a0.texts.length ct] 53)) from (Kp.refl _).alloc _)
  have HB0 := hid (blk_new w (.cells #[.slice Af a0.funcs.length cf, .slice At a0.texts.length ct] 53))
  obtain ⟨X, hxe, hx1, hx2, hpl⟩ := pack_least
  clear hxe
  have HPL := hid hpl
  have i10 : ¬ (X.length : Int) < 10 := by omega
  have i11 : (10 : Int) ≤ (X.length : Int) := by omega
  clear hpl hx1 hx2
  by_cases hs : (soundM a0).1 = 0
  · have HS := hid hs
    have HUP := hid (unpack_pack a0 (sound_code hs HON.out) hs)
    have HLE := hid (show (packB a0).length ≤ 1073741824 by
      have h := (pack_bound hs HON.out).2.2.2 a0.funcs.length
      rw [packF_all] at h
      rw [pack_len]; omega)
    generalize hP : packB a0 = P at HUP HLE
    have HP := hid hP
    clear hs hP
    go_enter Try.func11, Try.ntmps11
    generalize hn : w.heap.size = n0 at HB0
    have hn' := hn
    go_upto_region 2 with first | (go_at_call 28; go_must (refine (copied_any _ _ a0 (HC.out.kp HKA.out)).mono ?_); rintro e w1 ⟨⟨v1, rfl, ho1⟩, hk1⟩; have HO1 := hid ho1; have HK1 := hid (Kp.trans (show Kp w _ from HKA.out) hk1); have HB1 := hid ((hk1.block _ (blk_lt HB0.out)).trans HB0.out); have b0 := blk_cell (o := 0) (v := Value.slice Af a0.funcs.length cf) HB1.out rfl; have b1 := blk_cell (o := 1) (v := Value.slice At a0.texts.length ct) HB1.out rfl; have bl := blk_lt HB1.out; clear ho1 hk1) | (go_at_call 24; go_must (refine (pack_ok _ _ a0 HO1.out.rd HS.out).mono ?_); rintro e w2 ⟨⟨v2, rfl, hp2⟩, hk2⟩; rw [HP.out] at hp2; obtain ⟨A2, c2, rfl⟩ := own_form hp2; have HP2 := hid hp2; have HK2 := hid (Kp.trans HK1.out hk2); have HB2 := hid ((hk2.block _ (blk_lt HB1.out)).trans HB1.out); clear hp2 hk2)
    go_upto_region 3 with first | (go_at_call 29; go_must (refine (least_any _).mono ?_); rintro e w3 ⟨⟨v3, rfl, ho3⟩, hk3⟩; have HO3 := hid ho3; have HK3 := hid (Kp.trans HK2.out hk3); have HB3 := hid ((hk3.block _ (blk_lt HB2.out)).trans HB2.out); have HK23 := hid hk3; clear ho3 hk3) | (go_at_call 24; go_must (refine (HPL.out _ _ HO3.out.rd).mono ?_); rintro e w4 ⟨⟨A4, c4, rfl, hx4⟩, hk4⟩; have HK4 := hid (Kp.trans HK3.out hk4); have HB4 := hid ((hk4.block _ (blk_lt HB3.out)).trans HB3.out); have HK24 := hid (Kp.trans HK23.out hk4); have q0 := blk_cell (o := 0) (v := Value.slice Af a0.funcs.length cf) HB4.out rfl; have q1 := blk_cell (o := 1) (v := Value.slice At a0.texts.length ct) HB4.out rfl; have ql := blk_lt HB4.out; clear hx4 hk4)
    have HRP := hid ((RdBytes.of_own HP2.out (Nat.le_trans HLE.out (by decide))).kp HK24.out)
    go_wp2_with first | (go_at_call 26; go_must (refine (unpack_any _ _ P HRP.out HLE.out).mono ?_); unfold UnP; rw [HUP.out]; rintro e w5 ⟨⟨v5, rfl, ho5⟩, hk5⟩; obtain ⟨vf, vt, rfl, hof, hot, hlf, hlt⟩ := ho5; obtain ⟨A5, c5, rfl⟩ := (show ∃ A c, vf = .slice A a0.funcs.length c by obtain ⟨xs, h, _⟩ := hof; exact own_form h); obtain ⟨A6, c6, rfl⟩ := (show ∃ A c, vt = .slice A a0.texts.length c by obtain ⟨xs, h, _⟩ := hot; exact own_form h); have HO5 := hid (OCode.rd (show OCode _ _ _ a0 from ⟨_, _, rfl, hof, hot, hlf, hlt⟩)); have HK5 := hid (Kp.trans HK4.out hk5); have s0 := cell_kp hk5 ql q0; have s1 := cell_kp hk5 ql q1; have sl := Nat.lt_of_lt_of_le ql hk5.le; clear hof hot hlf hlt hk5) | (go_at_call 27; go_must (refine (same_eq _ _ _ a0 (HC.out.kp (HK5.out.alloc _)) (HO5.out.kp ((Kp.refl _).alloc _))).mono ?_); rintro e w6 ⟨rfl, hk6⟩)
    go_ret
    exact ⟨rfl, (HK5.out.alloc _).trans hk6⟩
  · have HER := hid (hs)
    have z9 : ((soundM a0).1 != 0) = true := by simpa using hs
    clear hs
    go_enter Try.func11, Try.ntmps11
    generalize hn : w.heap.size = n0 at HB0
    have hn' := hn
    go_upto_region 2 with first | (go_at_call 28; go_must (refine (copied_any _ _ a0 (HC.out.kp HKA.out)).mono ?_); rintro e w1 ⟨⟨v1, rfl, ho1⟩, hk1⟩; have HO1 := hid ho1; have HK1 := hid (Kp.trans (show Kp w _ from HKA.out) hk1); have HB1 := hid ((hk1.block _ (blk_lt HB0.out)).trans HB0.out); have b0 := blk_cell (o := 0) (v := Value.slice Af a0.funcs.length cf) HB1.out rfl; have b1 := blk_cell (o := 1) (v := Value.slice At a0.texts.length ct) HB1.out rfl; have bl := blk_lt HB1.out; clear ho1 hk1) | (go_at_call 24; go_must (refine (pack_err _ _ a0 HO1.out.rd HER.out).mono ?_); rintro e w2 ⟨rfl, hk2⟩; have HK2 := hid (Kp.trans HK1.out hk2); have HB2 := hid ((hk2.block _ (blk_lt HB1.out)).trans HB1.out); clear hk2)
    go_upto_region 3 with first | (go_at_call 29; go_must (refine (least_any _).mono ?_); rintro e w3 ⟨⟨v3, rfl, ho3⟩, hk3⟩; have HO3 := hid ho3; have HK3 := hid (Kp.trans HK2.out hk3); have HB3 := hid ((hk3.block _ (blk_lt HB2.out)).trans HB2.out); have HK23 := hid hk3; clear ho3 hk3) | (go_at_call 24; go_must (refine (HPL.out _ _ HO3.out.rd).mono ?_); rintro e w4 ⟨⟨A4, c4, rfl, hx4⟩, hk4⟩; have HK4 := hid (Kp.trans HK3.out hk4); have HB4 := hid ((hk4.block _ (blk_lt HB3.out)).trans HB3.out); have HK24 := hid (Kp.trans HK23.out hk4); have q0 := blk_cell (o := 0) (v := Value.slice Af a0.funcs.length cf) HB4.out rfl; have q1 := blk_cell (o := 1) (v := Value.slice At a0.texts.length ct) HB4.out rfl; have ql := blk_lt HB4.out; clear hx4 hk4)
    clear b0 b1 bl
    go_wp2_with first | (go_at_call 28; go_must (refine (copied_any _ _ a0 (HC.out.kp HK4.out)).mono ?_); rintro e w7 ⟨⟨v7, rfl, ho7⟩, hk7⟩; have HO7 := hid ho7; have HK7 := hid (Kp.trans HK4.out hk7); clear ho7 hk7) | (go_at_call 30; go_must (refine (sound_any _ _ a0 HO7.out.rd).mono ?_); rintro e w8 ⟨rfl, hk8⟩; unfold fixV)
    go_ret
    exact ⟨rfl, HK7.out.trans hk8⟩
/-! ### The row's step (the guide's frame, written by program) -/
set_option maxRecDepth 100000 in
theorem lifted (os : Os) (started : os.Started) (H : Type) (enc : TypeId × Value → H) :
    ReturnsInHanded {} Try.checked os 11 .any (Rows.imageBackSpec.pre6 enc Try.prog Try.f11 Rows.imageBackRow.domain false) (Rows.imageBackSpec.post enc Try.prog Try.f11 false true false false) := by
  refine returnsInHanded_of_change_sized (C := Try.checked) own started (by kernel_rfl) Try.func11
    (ChangeSpec.witness6 (enc := enc) (C := Try.checked) false ⟨#[], #[.agg #[.slice none 0 0, .slice none 0 0]], []⟩ 8 (by kernel_rfl) (by kernel_rfl) (by kernel_rfl) (by kernel_rfl)) ?_
  intro W base args ds gs before hval0 hW _ hsz0 _
  have hsz : (DataW.weightsEach Try.prog (Try.f11.params.toList ++ Rows.imageBackSpec.plain.varTypes Try.prog) (ds ++ gs)).all (· ≤ reachBytes) = true := hsz0
  clear hsz0
  have hval : ∀ (j : Nat) t v, Try.f11.params[j]? = some t → args[j]? = some v → Value.okWide Try.prog W .any base t v := hval0
  have hW' := hW
  obtain ⟨p, q, hA0, hV, rfl, hfz, hnd⟩ := hW
  have hA : DataW.TrodAll enc Try.prog W 0 (fun _ => true) true Try.f11.params.toList args.toList ds p := hA0
  rw [Try.params11] at hA hval hsz
  obtain ⟨v0, vs0, d0, ds0, p0, q0, hargs, rfl, rfl, h0, r0⟩ := trodAll_cons hA
  obtain ⟨rfl, rfl, rfl⟩ := trodAll_nil r0
  obtain rfl : args = #[v0] := by cases args; simp_all
  obtain ⟨rfl, rfl⟩ := trodVars_none hV
  have k0 := h0
  have lt0 : ∀ x ∈ p0, x.block < W.heap.size := by obtain ⟨m, hm⟩ := k0; exact DataW.trod_lt m _ _ _ hm
  have hz0 : ∀ n ∈ DataW.weights Try.prog 53 d0, n ≤ reachBytes := fun n hn => by
    have := List.all_eq_true.1 hsz _ (DataW.weights_mem_each (j := 0) rfl rfl n hn)
    simpa using this
  obtain ⟨a0, w0⟩ := open_code (hval 0 53 v0 rfl rfl) h0 hz0
  clear hA0 hval0
  simp only [List.append_nil] at hW'
  refine (walk v0 a0 W w0).mono fun e W' ⟨he, bel⟩ => ?_
  subst he
  exact ⟨_, rfl, _, _, _, [], _, [], hW', trodAll_mk1 (shut_bool Try.underlying4 _), (trodAll_cons_mk (Below.trod laidOut (by kernel_rfl) (of_decide_eq_true (by kernel_rfl)) k0 bel lt0) trodAll_mk0), rfl, Below.frame bel _, fun h => by cases h⟩

theorem over : Rows.imageBackRow.holds Try.pinned (OpenSpec.ofChange Rows.imageBackSpec) :=
  OpenClaim.holds_of_wide 11 Try.f11 rfl rfl rfl rfl rfl rfl rfl ⟨rfl, rfl, rfl, rfl, rfl⟩ rfl rfl rfl rfl rfl (by kernel_rfl) Try.func11 (by kernel_rfl)
    (of_decide_eq_true (by kernel_rfl)) (by unfold Func.isWrapper; rw [if_neg (of_decide_eq_false (by kernel_rfl))]; exact ⟨rfl, rfl⟩)
    (fun os started H enc _ => lifted os started H enc)

/-- THE STATEMENT. -/
theorem proved : Rows.ImageBackSaid := over
#print axioms proved

end Go.Proofs.Ytlfgofjmcegeiaa.imageBack
