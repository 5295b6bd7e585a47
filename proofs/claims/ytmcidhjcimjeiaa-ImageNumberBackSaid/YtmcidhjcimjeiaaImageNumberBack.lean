/-
  The law ImageNumberBack answers true for every number and all bytes ahead of it and behind it. No condition.
-/
import Derived.SizedLaws
import Derived.Test.YtmcidhjcimjeiaaRows
import Derived.Test.YtmcidhjcimjeiaaNumber
namespace Go.Proofs.Ytmcidhjcimjeiaa.imageNumberBack
open Go.ChangeShapes Go.WideShapes Go.ChangeAt Go.RowKit
open Go.ChangeMaps (open_string shut_string)
set_option linter.unusedVariables false

theorem own : ownKnob Try.prog.godebug = none := by kernel_rfl
theorem laidOut : laidOutB Try.prog = true := by kernel_rfl


theorem zz (n : Int) (hn : -9223372036854775808 ≤ n ∧ n ≤ 9223372036854775807) (r : List UInt8) : tkV 0 0 (enc7 (zig n) ++ r) = some (zig n, (enc7 (zig n)).length) := by
  have h := tk_enc 9 0 0 (zig n) r (by omega) (by have := zig_lt n hn; omega) (by omega)
  simpa using h
set_option maxRecDepth 20000 in
set_option maxHeartbeats 1000000 in
theorem walk (v0 : Value) (a0 : List UInt8) (a1 : Int) (v2 : Value) (a2 : List UInt8) (w : World) (w0 : RdArgB w v0 a0) (w1 : (Lit.int .i64 a1).wf = true) (w2 : RdArgB w v2 a2) :
    Calls Try.prog 8 #[v0, .int .i64 a1, v2] w fun e w' => e = .returned (.bool true) ∧ Kp w w' := by
  have hn := bounds_i64 w1
  clear w1
  obtain ⟨r0, l0⟩ := w0
  obtain ⟨r2, l2⟩ := w2
  have R0 := hid r0; have R2 := hid r2
  obtain ⟨_, A0, c0, rfl, hc0, hcell0⟩ := r0
  obtain ⟨_, A2, c2, rfl, hc2, hcell2⟩ := r2
  clear hcell0 hcell2
  go_enter Try.func8, Try.ntmps8
  go_wp2_with (first | (at_builtin; go_must (refine app_src elByte rfl (.const (.slice none 0 0)) (.tmp 12) rfl (World.ownsRow_nil _ w.heap.size _ _) rfl (a0.map byteV) _ _ _ rfl (by simp) (R0.out.src).2 (oneByte _) (by unfold maxLen; omega) (by omega) (Nat.le_refl _) ?_); intro v1 w1 hown1 hg1 hm1 hb1))
  have hob : OwnB w1 w.heap.size v1 a0 := by unfold OwnB; rw [Nat.zero_add] at hown1; exact hown1
  refine (number_any v1 a0 _ _ (RdBytes.of_own hob (by omega)) hn (by omega)).mono ?_
  rintro e w2 ⟨⟨v2, rfl, hown2⟩, hk2⟩
  clear hown1 hg1 hm1
  have hel := enc7_len 9 (zig a1) (by have := zig_lt a1 hn; omega)
  have hep := enc7_pos (zig a1)
  have hz := zz a1 hn
  obtain ⟨E, hE⟩ : ∃ E, enc7 (zig a1) = E := ⟨_, rfl⟩
  rw [hE] at hown2 hel hep hz
  have HZ := hid hz
  clear hz hE
  obtain ⟨g, cap, rfl, hcap, hg1, hg2⟩ := hown2.some_ (by rw [List.length_append]; omega)
  rw [List.length_append] at *
  have hbel2 : Below w.heap.size w w2 := Below.trans hb1 (Below.mono hk2 hb1.size)
  have r1 := fun n => (RdBytes.of_own hown2.head (by omega)).drewN n |>.str
  have r2 := fun n => ((R0.out.kp hbel2).drewN n).str
  have t1 : decide ((a0.length : Int) + (E.length : Int) ≤ (a0.length : Int)) = false := by simp; omega
  have t2 : decide ((a0.length : Int) + 10 < (a0.length : Int) + (E.length : Int)) = false := by simp; omega
  have t3 : a0.length ≤ cap := by omega
  have t6 : decide ((10 : Int) < (E.length : Int)) = false := by simp; omega
  have t4 : IntKind.i64.wrap ((a0.length : Int) + 10) = (a0.length : Int) + 10 := IntWalk.i64_in _ (by omega)
  have t5 : (a0.length : Int) ≤ (cap : Int) := by omega
  have HO := hid hown2; have HK := hid hk2; have HB := hid hb1
  clear hown2 hk2 hb1 hob
  go_wp2_with fail
  go_quiet (fail)
  have ho3 : OwnB (w2.drewN nq) w1.heap.size (.slice (some ⟨g, 0, none⟩) (a0.length + E.length) cap) (a0 ++ E) := HO.out
  have hb3 : Below w.heap.size w (w2.drewN nq) := ⟨hbel2.os, hbel2.tape, hbel2.output, hbel2.size, hbel2.block⟩
  have hne : ¬ cap = a0.length := by omega
  clear r1 r2 t1 t2 t6 t5 t4 hbel2 HO HK HB
  generalize w2.drewN nq = w3 at *
  have HO := hid ho3
  have R2' := hid (R2.out.kp hb3)
  clear ho3
  have hsrc := (HO.out.tail (by omega) (some ⟨g, a0.length, none⟩) (fun _ => rfl) E.length (cap - a0.length) rfl (by omega)).src
  have HS := hid hsrc
  clear hsrc
  go_wp2_with (first | (at_builtin; refine app_src elByte rfl (.const (.slice none 0 0)) (.tmp 48) rfl (World.ownsRow_nil w3 w3.heap.size _ _) rfl (E.map byteV) _ _ _ rfl (by simp) HS.out.2 (oneByte _) (by unfold maxLen; omega) (by omega) (Nat.le_refl _) ?_; intro v4 w4 hown4 hg4 hm4 hb4) | (at_builtin; refine app_src elByte rfl (.tmp 49) (.tmp 50) rfl hown4 rfl (a2.map byteV) _ _ _ rfl (by simp) (R2'.out.kp hb4).src.2 (oneByte _) (by unfold maxLen; omega) (by omega) hb4.size ?_; intro v5 w5 hown5 hg5 hm5 hb5))
  have hob5 : OwnB w5 w3.heap.size v5 (E ++ a2) := by
    unfold OwnB; rw [List.length_append, List.map_append]
    rw [Nat.zero_add, List.nil_append] at hown5; exact hown5
  refine (take_any v5 (E ++ a2) _ (RdBytes.of_own hob5 (by rw [List.length_append]; omega))).mono ?_
  intro e w6 hT
  unfold TkPost at hT
  rw [HZ.out] at hT
  obtain ⟨hT1, rfl⟩ := hT
  simp only [unzig_zig] at hT1
  subst hT1
  have hkk : ((E.length : Int) == (a0.length : Int) + (E.length : Int) - (a0.length : Int)) = true := by simp; omega
  have hk : Kp w w5 := Below.trans (Below.trans hb3 (Below.mono hb4 hb3.size)) (Below.mono hb5 hb3.size)
  clear hown4 hg4 hm4 hown5 hg5 hm5 hb4 hb5 hob5
  go_wp2
  go_ret
  exact ⟨rfl, hk⟩

/-! ### The row's step (the guide's frame, written by program) -/
set_option maxRecDepth 100000 in
theorem lifted (os : Os) (started : os.Started) (H : Type) (enc : TypeId × Value → H) :
    ReturnsInHanded {} Try.checked os 8 .any (Rows.imageNumberBackSpec.pre6 enc Try.prog Try.f8 Rows.imageNumberBackRow.domain false) (Rows.imageNumberBackSpec.post enc Try.prog Try.f8 false true false false) := by
  refine returnsInHanded_of_change_sized (C := Try.checked) own started (by kernel_rfl) Try.func8
    (ChangeSpec.witness6 (enc := enc) (C := Try.checked) false ⟨#[], #[.slice none 0 0, .int .i64 0, .slice none 0 0], []⟩ 8 (by kernel_rfl) (by kernel_rfl) (by kernel_rfl) (by kernel_rfl)) ?_
  intro W base args ds gs before hval0 hW _ hsz0 _
  have hsz : (DataW.weightsEach Try.prog (Try.f8.params.toList ++ Rows.imageNumberBackSpec.plain.varTypes Try.prog) (ds ++ gs)).all (· ≤ reachBytes) = true := hsz0
  clear hsz0
  have hval : ∀ (j : Nat) t v, Try.f8.params[j]? = some t → args[j]? = some v → Value.okWide Try.prog W .any base t v := hval0
  have hW' := hW
  obtain ⟨p, q, hA0, hV, rfl, hfz, hnd⟩ := hW
  have hA : DataW.TrodAll enc Try.prog W 0 (fun _ => true) true Try.f8.params.toList args.toList ds p := hA0
  rw [Try.params8] at hA hval hsz
  obtain ⟨v0, vs0, d0, ds0, p0, q0, hargs, rfl, rfl, h0, r0⟩ := trodAll_cons hA
  obtain ⟨v1, vs1, d1, ds1, p1, q1, rfl, rfl, rfl, h1, r1⟩ := trodAll_cons r0
  obtain ⟨v2, vs2, d2, ds2, p2, q2, rfl, rfl, rfl, h2, r2⟩ := trodAll_cons r1
  obtain ⟨rfl, rfl, rfl⟩ := trodAll_nil r2
  obtain rfl : args = #[v0, v1, v2] := by cases args; simp_all
  obtain ⟨rfl, rfl⟩ := trodVars_none hV
  have k0 := h0
  have lt0 : ∀ x ∈ p0, x.block < W.heap.size := by obtain ⟨m, hm⟩ := k0; exact DataW.trod_lt m _ _ _ hm
  have hz0 : ∀ n ∈ DataW.weights Try.prog 48 d0, n ≤ reachBytes := fun n hn => by
    have := List.all_eq_true.1 hsz _ (DataW.weights_mem_each (j := 0) rfl rfl n hn)
    simpa using this
  obtain ⟨a0, w0⟩ := open_bytes (hval 0 48 v0 rfl rfl) h0 hz0
  have k1 := h1
  have lt1 : ∀ x ∈ p1, x.block < W.heap.size := by obtain ⟨m, hm⟩ := k1; exact DataW.trod_lt m _ _ _ hm
  obtain ⟨a1, rfl, rfl, rfl, w1⟩ := open_int Try.underlying3 (hval 1 3 v1 rfl rfl) h1
  have k2 := h2
  have lt2 : ∀ x ∈ p2, x.block < W.heap.size := by obtain ⟨m, hm⟩ := k2; exact DataW.trod_lt m _ _ _ hm
  have hz2 : ∀ n ∈ DataW.weights Try.prog 48 d2, n ≤ reachBytes := fun n hn => by
    have := List.all_eq_true.1 hsz _ (DataW.weights_mem_each (j := 2) rfl rfl n hn)
    simpa using this
  obtain ⟨a2, w2⟩ := open_bytes (hval 2 48 v2 rfl rfl) h2 hz2
  clear hA0 hval0
  simp only [List.append_nil] at hW'
  refine (walk v0 a0 a1 v2 a2 W w0 w1 w2).mono fun e W' ⟨he, bel⟩ => ?_
  subst he
  exact ⟨_, rfl, _, _, _, [], _, [], hW', trodAll_mk1 (shut_bool Try.underlying4 _), (trodAll_cons_mk (Below.trod laidOut (by kernel_rfl) (of_decide_eq_true (by kernel_rfl)) k0 bel lt0) (trodAll_cons_mk (Below.trod laidOut (by kernel_rfl) (of_decide_eq_true (by kernel_rfl)) k1 bel lt1) (trodAll_cons_mk (Below.trod laidOut (by kernel_rfl) (of_decide_eq_true (by kernel_rfl)) k2 bel lt2) trodAll_mk0))), rfl, Below.frame bel _, fun h => by cases h⟩

theorem over : Rows.imageNumberBackRow.holds Try.pinned (OpenSpec.ofChange Rows.imageNumberBackSpec) :=
  OpenClaim.holds_of_wide 8 Try.f8 rfl rfl rfl rfl rfl rfl rfl ⟨rfl, rfl, rfl, rfl, rfl⟩ rfl rfl rfl rfl rfl (by kernel_rfl) Try.func8 (by kernel_rfl)
    (of_decide_eq_true (by kernel_rfl)) (by unfold Func.isWrapper; rw [if_neg (of_decide_eq_false (by kernel_rfl))]; exact ⟨rfl, rfl⟩)
    (fun os started H enc _ => lifted os started H enc)

/-- THE STATEMENT. -/
theorem proved : Rows.ImageNumberBackSaid := over
#print axioms proved

end Go.Proofs.Ytmcidhjcimjeiaa.imageNumberBack
