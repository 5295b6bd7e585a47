/-
  The law CodeBack answers true for every code (the card: the library's tables are tied to the program's text). No condition.
-/
import Derived.SizedLaws
import Derived.Deep.CondSized
import Derived.Test.YtiicdknmoakocaaDoorRows
import Derived.Test.YtiicdknmoakocaaDoorCodeT
import Derived.Test.YtiicdknmoakocaaDoorCdB
import Derived.Test.YtiicdknmoakocaaDoorCodeS
import Derived.Test.YtiicdknmoakocaaDoorCards
import Derived.Test.YtiicdknmoakocaaDoorTie
import Derived.Deep.DeepHandedRow
namespace Go.Proofs.YtiicdknmoakocaaDoor.codeBack
open Go.ChangeShapes Go.WideShapes Go.ChangeAt Go.RowKit
open Go.ChangeMaps (open_string shut_string)
set_option linter.unusedVariables false
set_option linter.unusedSimpArgs false

theorem own : ownKnob Tryd.prog.godebug = none := by kernel_rfl
theorem laidOut : laidOutB Tryd.prog = true := by kernel_rfl


@[go_sem] theorem field_fix0 (x0 x1 x2 : Value) (w : World) : Sem.run Tryd.prog (Instr.field 38 (.agg #[x0, x1, x2]) 0) w = .ok x0 w := by kernel_rfl
theorem none_rd (w : World) : RdCode w (.agg #[.slice none 0 0, .slice none 0 0]) ⟨[], []⟩ :=
  ⟨_, _, rfl, (OwnL.nil (CeOFn 0) 5 60 w 0).rd.mono (fun _ _ h => h.ce), by decide, (OwnL.nil CeStr 1 9 w 0).rd, by decide⟩
set_option maxRecDepth 20000 in
set_option maxHeartbeats 4000000 in
theorem sound_true (w : World) : Calls Tryd.prog 10 #[] w fun e w' => e = .returned (.bool true) ∧ Kp w w' := by
  have HSL := hid (fun u v (h : RdCode u v leastM) => sound_any u v leastM h)
  have HSN := hid (fun u => sound_any u _ _ (none_rd u))
  rw [least_sound] at HSL
  rw [sound_none (c := ⟨[], []⟩) rfl] at HSN
  unfold fixV at HSL HSN
  simp only at HSL HSN
  go_enter Tryd.func10, Tryd.ntmps10
  go_wp2_with first | (go_at_call 14; go_must (refine (least_any _).mono ?_); rintro e w1 ⟨⟨v1, rfl, ho1⟩, hk1⟩; have HS1 := hid (HSL.out _ _ ho1.rd); have HK1 := hid hk1; clear ho1 hk1) | (go_at_call 11; first | (refine HS1.out.mono ?_; rintro e w2 ⟨rfl, hk2⟩; have HK2 := hid (HK1.out.trans hk2); clear hk2 HS1) | (refine (HSN.out _).mono ?_; rintro e w3 ⟨rfl, hk3⟩; have HK3 := hid (HK2.out.trans hk3); clear hk3))
  go_ret
  exact ⟨rfl, HK3.out⟩
set_option maxRecDepth 20000 in
set_option maxHeartbeats 8000000 in
theorem walk (v0 : Value) (a0 : CodeM) (w : World) (w0 : RdCode w v0 a0) (m : Int) (hm : w.cell? ⟨0, 0, none⟩ = some (.int .i64 m)) :
    Calls Tryd.prog 4 #[v0] w fun e w' => e = .returned (.bool true) ∧ Kp w w' := by
  have HC := hid w0
  have hm0 := block_lt_of_cell hm
  obtain ⟨lf, lt, rfl, hf, hfl, ht, htl⟩ := w0
  obtain ⟨Af, cf, rfl, _⟩ := hf.form
  obtain ⟨At, ct, rfl, _⟩ := ht.form
  have HON := hid (okNumsC_of hf)
  clear hf hfl ht htl
  have HKA := hid (show Kp w (w.alloc (.cells #[.slice Af a0.funcs.length cf, .slice At a0.texts.length ct] 32)) from (Kp.refl _).alloc _)
  have HB0 := hid (blk_new w (.cells #[.slice Af a0.funcs.length cf, .slice At a0.texts.length ct] 32))
  by_cases hs : (soundM a0).1 = 0
  · have HS := hid hs
    have hsz := show_size hs HON.out
    have hback := shown_back hs HON.out
    obtain ⟨T, hT⟩ : ∃ T : ByteArray, mk (showM a0) = T := ⟨_, rfl⟩
    have HSH := hid (fun u v (h : RdCode u v a0) => show_ok u v a0 h hs)
    rw [show (⟨(showM a0).toArray⟩ : ByteArray) = T from hT] at HSH
    rw [hT] at hback
    have hTz : T.size < 4294967281 := by rw [← hT, mk_size]; omega
    have HRD := hid (fun u (hu : Kp w u) => show Calls Tryd.prog 12 #[.string T] u fun e w' => (∃ v, e = .returned (.tuple #[v, .int .i64 0]) ∧ OCode w' u.heap.size v a0) ∧ Kp u w' from (cread_any T hTz m u (cell_kp hu hm0 hm)).mono (by
      rintro e w' ⟨⟨c, v, h1, h2, h3⟩ | ⟨h1, _⟩, hk⟩
      · rw [hback] at h1; injection h1 with h1; subst h1; exact ⟨⟨v, h2, h3⟩, hk⟩
      · rw [hback] at h1; cases h1))
    clear hs hsz hback hT hTz hm hm0
    go_enter Tryd.func4, Tryd.ntmps4
    go_upto_region 1 with fail
    generalize (w.alloc (.cells #[.slice Af a0.funcs.length cf, .slice At a0.texts.length ct] 32)) = W0 at HKA HB0 ⊢
    generalize w.heap.size = n0 at HB0 ⊢
    have q0 := blk_cell (o := 0) (v := Value.slice Af a0.funcs.length cf) HB0.out rfl
    have q1 := blk_cell (o := 1) (v := Value.slice At a0.texts.length ct) HB0.out rfl
    have ql := blk_lt HB0.out
    go_upto_region 2 with first | (go_at_call 9; go_must (refine (copied_any _ _ a0 (HC.out.kp HKA.out)).mono ?_); rintro e w1 ⟨⟨v1, rfl, ho1⟩, hk1⟩; have HS1 := hid (HSH.out _ _ ho1.rd); have HK1 := hid hk1; clear ho1 hk1) | (go_at_call 8; go_must (refine HS1.out.mono ?_); rintro e w2 ⟨rfl, hk2⟩; have HK2 := hid (HK1.out.trans hk2); clear hk2)
    clear q0 q1 ql
    have HR2 := hid (HRD.out w2 (HKA.out.trans HK2.out))
    go_upto_region 5 with (go_at_call 12; go_must (refine HR2.out.mono ?_); rintro e w3 ⟨⟨v3, rfl, ho3⟩, hk3⟩; have HK3 := hid (HK2.out.trans hk3); have HO3 := hid ho3; obtain ⟨vf, vt, rfl, hf1, hf2, _⟩ := ho3; obtain ⟨xf, hf1, _⟩ := hf1; obtain ⟨xt, hf2, _⟩ := hf2; obtain ⟨Bf, df, rfl⟩ := own_form hf1; obtain ⟨Bt, dt, rfl⟩ := own_form hf2; clear hk3 hf1 hf2)
    have HBX := hid (blk_new w3 (.cells #[.slice Bf a0.funcs.length df, .slice Bt a0.texts.length dt] 32))
    have HK4 := hid (HK3.out.alloc (.cells #[.slice Bf a0.funcs.length df, .slice Bt a0.texts.length dt] 32))
    have HO4 := hid (HO3.out.kp ((Kp.refl w3).alloc (.cells #[.slice Bf a0.funcs.length df, .slice Bt a0.texts.length dt] 32)))
    generalize (w3.alloc (.cells #[.slice Bf a0.funcs.length df, .slice Bt a0.texts.length dt] 32)) = W4 at HBX HK4 HO4 ⊢
    generalize w3.heap.size = n3 at HBX ⊢
    have HB4 := hid ((HK4.out.block _ (blk_lt HB0.out)).trans HB0.out)
    go_wp2_with first | (go_at_call 10; go_must (refine (sound_true _).mono ?_); rintro e w5 ⟨rfl, hk5⟩; have HK5 := hid hk5; have q0 := blk_cell (o := 0) (v := Value.slice Af a0.funcs.length cf) ((hk5.block _ (blk_lt HB4.out)).trans HB4.out) rfl; have q1 := blk_cell (o := 1) (v := Value.slice At a0.texts.length ct) ((hk5.block _ (blk_lt HB4.out)).trans HB4.out) rfl; have ql := Nat.lt_of_lt_of_le (blk_lt HB4.out) hk5.le; have r0 := blk_cell (o := 0) (v := Value.slice Bf a0.funcs.length df) ((hk5.block _ (blk_lt HBX.out)).trans HBX.out) rfl; have r1 := blk_cell (o := 1) (v := Value.slice Bt a0.texts.length dt) ((hk5.block _ (blk_lt HBX.out)).trans HBX.out) rfl; have rl := Nat.lt_of_lt_of_le (blk_lt HBX.out) hk5.le; have HSM := hid (same_eq w5 _ _ a0 (HC.out.kp (HKA.out.trans (HK4.out.trans hk5))) (HO4.out.kp hk5).rd); clear hk5) | (go_at_call 13; go_must (refine HSM.out.mono ?_); rintro e w6 ⟨rfl, hk6⟩; have HK6 := hid hk6; clear hk6)
    go_ret
    exact ⟨rfl, (HKA.out.trans (HK4.out.trans HK5.out)).trans HK6.out⟩
  · have HSH := hid (fun u v (h : RdCode u v a0) => show_err u v a0 h hs)
    have HSO := hid (fun u v (h : RdCode u v a0) => sound_any u v a0 h)
    unfold fixV at HSO
    obtain ⟨E, hE⟩ : ∃ E, (soundM a0).1 = E := ⟨_, rfl⟩
    rw [hE] at HSH HSO hs
    generalize (soundM a0).2.1 = E1 at HSO
    generalize (soundM a0).2.2 = E2 at HSO
    have t0 : (E == 0) = false := by rw [beq_eq_false_iff_ne]; exact hs
    have t1 : (E != 0) = true := by rw [bne, t0]; rfl
    clear hs hE hm hm0
    go_enter Tryd.func4, Tryd.ntmps4
    go_upto_region 1 with fail
    generalize (w.alloc (.cells #[.slice Af a0.funcs.length cf, .slice At a0.texts.length ct] 32)) = W0 at HKA HB0 ⊢
    generalize w.heap.size = n0 at HB0 ⊢
    have q0 := blk_cell (o := 0) (v := Value.slice Af a0.funcs.length cf) HB0.out rfl
    have q1 := blk_cell (o := 1) (v := Value.slice At a0.texts.length ct) HB0.out rfl
    have ql := blk_lt HB0.out
    go_upto_region 2 with first | (go_at_call 9; go_must (refine (copied_any _ _ a0 (HC.out.kp HKA.out)).mono ?_); rintro e w1 ⟨⟨v1, rfl, ho1⟩, hk1⟩; have HS1 := hid (HSH.out _ _ ho1.rd); have HK1 := hid hk1; clear ho1 hk1) | (go_at_call 8; go_must (refine HS1.out.mono ?_); rintro e w2 ⟨rfl, hk2⟩; have HK2 := hid (HK1.out.trans hk2); clear hk2)
    clear q0 q1 ql
    have HB2 := hid ((HK2.out.block _ (blk_lt HB0.out)).trans HB0.out)
    go_wp2_with first | (go_at_call 10; go_must (refine (sound_true _).mono ?_); rintro e w5 ⟨rfl, hk5⟩; have HK5 := hid (HK2.out.trans hk5); have q0 := blk_cell (o := 0) (v := Value.slice Af a0.funcs.length cf) ((hk5.block _ (blk_lt HB2.out)).trans HB2.out) rfl; have q1 := blk_cell (o := 1) (v := Value.slice At a0.texts.length ct) ((hk5.block _ (blk_lt HB2.out)).trans HB2.out) rfl; have ql := Nat.lt_of_lt_of_le (blk_lt HB2.out) hk5.le; clear hk5) | (go_at_call 9; go_must (refine (copied_any _ _ a0 (HC.out.kp (HKA.out.trans HK5.out))).mono ?_); rintro e w6 ⟨⟨v6, rfl, ho6⟩, hk6⟩; have HS6 := hid (HSO.out _ _ ho6.rd); have HK6 := hid (HK5.out.trans hk6); clear ho6 hk6) | (go_at_call 11; go_must (refine HS6.out.mono ?_); rintro e w7 ⟨rfl, hk7⟩; have HK7 := hid (HK6.out.trans hk7); clear hk7)
    go_ret
    exact ⟨rfl, HKA.out.trans HK7.out⟩
/-! ### The row's step -/
set_option maxRecDepth 100000
theorem shapedMax {W : World} (h : W.ShapedOpen Tryd.prog) : ∃ m, W.cell? ⟨0, 0, none⟩ = some (.int .i64 m) := Tryd.laysM146.s1_3 W h
def litV : DataW Unit → Value
  | .lit (.int k n) => .int k n
  | _ => undef
def firstV : Array Value := match Go.Pinned.utf8First with
  | .agg l => (l.map litV).toArray
  | _ => #[]
def accV : Array Value := #[.int .u8 128, .int .u8 191, .int .u8 160, .int .u8 191, .int .u8 128, .int .u8 159, .int .u8 144, .int .u8 191, .int .u8 128, .int .u8 143, .int .u8 0, .int .u8 0, .int .u8 0, .int .u8 0, .int .u8 0, .int .u8 0, .int .u8 0, .int .u8 0, .int .u8 0, .int .u8 0, .int .u8 0, .int .u8 0, .int .u8 0, .int .u8 0, .int .u8 0, .int .u8 0, .int .u8 0, .int .u8 0, .int .u8 0, .int .u8 0, .int .u8 0, .int .u8 0]
def layCells (vs : Array Value) : Obj → Obj
  | .cells _ t frozen => .cells vs t frozen
  | o => o
/-- A world for the witness: the settled one, the library's tables holding what its text lays. -/
noncomputable def laidWorld (os : Os) : World :=
  { World.holding Tryd.prog os ⟨#[], #[], []⟩ with heap := ((World.holding Tryd.prog os ⟨#[], #[], []⟩).heap.modify 1 (layCells firstV)).modify 2 (layCells accV) }
theorem gFirst : Tryd.prog.globalNamed "unicode/utf8.first" = some 1 := by kernel_rfl
theorem gAcc : Tryd.prog.globalNamed "unicode/utf8.acceptRanges" = some 2 := by kernel_rfl
theorem laid_met (os : Os) : laidMet Tryd.prog Rows.codeBackRow.laid ((laidWorld os).forCall (fun _ _ => 0) ⟨#[], #[.agg #[.slice none 0 0, .slice none 0 0]], []⟩).memory :=
  laidMet_of_run' 8 (by kernel_rfl) (by kernel_rfl)
theorem reads (os : Os) {H : Type} (enc : TypeId × Value → H) : ∃ places, DataW.whole enc Tryd.prog ((laidWorld os).forCall (fun _ _ => 0) ⟨#[], #[.agg #[.slice none 0 0, .slice none 0 0]], []⟩).memory Tryd.f4.params.toList Rows.codeBackSpec.vars false (#[.agg #[.slice none 0 0, .slice none 0 0]] : Array Value).toList 8 = some ([.agg [.nil, .nil]], [], places) :=
  ⟨[], by kernel_rfl⟩
theorem lifted (os : Os) (started : os.Started) (H : Type) (enc : TypeId × Value → H) (F : Stop.Interp) :
    ReturnsInHanded {} Tryd.checked os 4 .any ((OpenSpec.ofChange Rows.codeBackSpec).preRow enc Tryd.prog Tryd.f4 Rows.codeBackRow.domain false Rows.codeBackRow.laid) (((OpenSpec.ofChange Rows.codeBackSpec).at F).post enc Tryd.prog Tryd.f4 false true false false) := by
  obtain ⟨places, hx⟩ := reads os enc
  refine returnsInHanded_of_row (C := Tryd.checked) (s := OpenSpec.ofChange Rows.codeBackSpec) own started (by kernel_rfl) Tryd.func4
    (witness_row_at (enc := enc) (C := Tryd.checked) false (laidWorld os) #[.agg #[.slice none 0 0, .slice none 0 0]] rfl (by kernel_rfl) (by kernel_rfl) (by kernel_rfl)
      (OpenSpec.preRow_of_cond 8 hx (by kernel_rfl) (fun k hk => by cases hk) (by kernel_rfl) (laid_met os))) ?_
  intro W base args ds gs before hval0 hW _ _ hsz0 _ hsh _
  have hsz : (DataW.weightsEach Tryd.prog (Tryd.f4.params.toList ++ Rows.codeBackSpec.plain.varTypes Tryd.prog) (ds ++ gs)).all (· ≤ reachBytes) = true := hsz0
  clear hsz0
  obtain ⟨m, hm⟩ := shapedMax hsh
  have hval : ∀ (j : Nat) t v, Tryd.f4.params[j]? = some t → args[j]? = some v → Value.okWide Tryd.prog W .any base t v := hval0
  have hW' := hW
  obtain ⟨p, q, hA0, hV, rfl, hfz, hnd⟩ := hW
  have hA : DataW.TrodAll enc Tryd.prog W 0 (fun _ => true) true Tryd.f4.params.toList args.toList ds p := hA0
  rw [Tryd.params4] at hA hval hsz
  obtain ⟨v0, vs0, d0, ds0, p0, q0, hargs, rfl, rfl, h0, r0⟩ := trodAll_cons hA
  obtain ⟨rfl, rfl, rfl⟩ := trodAll_nil r0
  obtain rfl : args = #[v0] := by cases args; simp_all
  obtain ⟨rfl, rfl⟩ := trodVars_none hV
  have k0 := h0
  have lt0 : ∀ x ∈ p0, x.block < W.heap.size := by obtain ⟨m, hm⟩ := k0; exact DataW.trod_lt m _ _ _ hm
  have hz0 : ∀ n ∈ DataW.weights Tryd.prog 32 d0, n ≤ reachBytes := fun n hn => by
    have := List.all_eq_true.1 hsz _ (DataW.weights_mem_each (j := 0) rfl rfl n hn)
    simpa using this
  obtain ⟨a0, w0⟩ := open_code (hval 0 32 v0 rfl rfl) h0 hz0
  clear hA0 hval0
  simp only [List.append_nil] at hW'
  refine (walk v0 a0 W w0 m hm).mono fun e W' ⟨he, bel⟩ => ?_
  subst he
  exact ⟨_, rfl, _, _, _, [], _, [], hW', trodAll_mk1 (shut_bool Tryd.underlying4 _), (trodAll_cons_mk (Below.trod laidOut (by kernel_rfl) (of_decide_eq_true (by kernel_rfl)) k0 bel lt0) trodAll_mk0), rfl, Below.frame bel _, fun h => by cases h⟩
theorem said : Rows.CodeBackSaid :=
  OpenClaim.holds_of_cond 4 Tryd.f4 rfl rfl rfl rfl rfl rfl rfl ⟨rfl, rfl, rfl, rfl, rfl⟩ rfl rfl rfl rfl rfl (by kernel_rfl) Tryd.func4 (by kernel_rfl)
    (of_decide_eq_true (by kernel_rfl)) (by unfold Func.isWrapper; first | (rw [if_pos (by decide +kernel)]; kernel_rfl) | (rw [if_neg (by decide +kernel)]; exact ⟨rfl, rfl⟩))
    (fun os started H enc _ F => by rw [OpenClaim.pre_eq_preRow]; exact lifted os started H enc F)
/-- No parameter wants a stand-in. -/
theorem plainP (f : FuncId) (fn : Func) (hf : Tryd.pinned.checked.prog.funcNamed "panicroad/panicroadkeep.CodeBack" = some f) (hfn : Tryd.pinned.checked.prog.funcs[f]? = some fn) :
    true = Tryd.pinned.checked.prog.looks [] ∧ ∀ (j : Nat) t, fn.params[j]? = some t → Tryd.pinned.checked.prog.wantsStandIn t = false := by
  obtain rfl : f = 4 := Option.some.inj ((show Tryd.prog.funcNamed "panicroad/panicroadkeep.CodeBack" = some 4 by kernel_rfl).symm.trans hf) |>.symm
  obtain rfl : fn = Tryd.f4 := (Option.some.inj (Tryd.func4.symm.trans hfn)).symm
  refine ⟨by kernel_rfl, fun j t ht => ?_⟩
  rw [Tryd.params4] at ht
  obtain rfl : t = 32 := by simpa using Array.mem_of_getElem? ht
  exact (show Tryd.prog.wantsStandIn 32 = false by kernel_rfl)
/-- THE CARD. -/
theorem proved : Rows.CodeBackCardSaid :=
  Claim7.holds_tied_plain_at .later [] _ _ _ _ said (fun _ h => by cases h) (by kernel_rfl) (fun _ h => by cases h) codeBack_row_tie rfl ⟨rfl, rfl⟩ (by kernel_rfl) rfl plainP (by kernel_rfl)
#print axioms proved
end Go.Proofs.YtiicdknmoakocaaDoor.codeBack
