/-
  The law FaultBack answers true for every Fault (the card: the library's tables are tied to the program's text). No condition.
-/
import Derived.SizedLaws
import Derived.Deep.CondSized
import Derived.Test.YtiicdknmoakocaaDoorRows
import Derived.Test.YtiicdknmoakocaaDoorFltR
import Derived.Test.YtiicdknmoakocaaDoorCards
import Derived.Test.YtiicdknmoakocaaDoorTie
import Derived.Deep.DeepHandedRow
namespace Go.Proofs.YtiicdknmoakocaaDoor.faultBack
open Go.ChangeShapes Go.WideShapes Go.ChangeAt Go.RowKit
open Go.ChangeMaps (open_string shut_string)
set_option linter.unusedVariables false
set_option linter.unusedSimpArgs false

theorem own : ownKnob Tryd.prog.godebug = none := by kernel_rfl
theorem laidOut : laidOutB Tryd.prog = true := by kernel_rfl


set_option maxRecDepth 20000 in
set_option maxHeartbeats 4000000 in
theorem walk (v0 : Value) (f : FaultM) (w : World) (hr : RdFault w v0 f) (m : Int) (hm : w.cell? ⟨0, 0, none⟩ = some (.int .i64 m)) :
    Calls Tryd.prog 3 #[v0] w fun e w' => e = .returned (.bool true) ∧ Kp w w' := by
  obtain ⟨rfl, hok⟩ := hr
  have hokf : okFt f := hok
  have hm0 := block_lt_of_cell hm
  obtain ⟨hl1, hl2⟩ := fread_law f hokf
  have HT := hid (fun w => ftext_any f hokf w)
  obtain ⟨S, hS⟩ : ∃ S : ByteArray, (⟨(textM f).toArray⟩ : ByteArray) = S := ⟨_, rfl⟩
  have hsz : S.size ≤ 1000000 := by
    rw [← hS]
    show (textM f).toArray.size ≤ _
    rw [List.size_toArray]
    have := text_len f hokf; omega
  have HRD := hid (fun (u : World) (hu : Kp w u) => fread_any S hsz m u (cell_kp hu hm0 hm))
  have hSd : S.data.toList = textM f := by rw [← hS]
  have HT2 := hid (fun w => ftext_any ⟨2, 0, 0, 0⟩ ⟨by show okI 2; unfold okI; omega, ok00, ok00, ok00⟩ w)
  have t2 : ((⟨(textM ⟨2, 0, 0, 0⟩).toArray⟩ : ByteArray).toList == [114, 117, 110, 116, 105, 109, 101, 32, 101, 114, 114, 111, 114, 58, 32, 105, 110, 116, 101, 103, 101, 114, 32, 100, 105, 118, 105, 100, 101, 32, 98, 121, 32, 122, 101, 114, 111]) = true := by rw [ByteArray.toList_eq]; decide
  obtain ⟨T2, hT2⟩ : ∃ T : ByteArray, (⟨(textM ⟨2, 0, 0, 0⟩).toArray⟩ : ByteArray) = T := ⟨_, rfl⟩
  rw [hT2] at t2 HT2
  rw [hS] at HT
  have HB := hid (show FB (w.alloc (.cells #[.int .i64 f.k, .int .i64 f.a, .int .i64 f.b, .int .i64 f.c] 23)) w.heap.size f.k f.a f.b f.c from blk_new _ _)
  have HK := hid (show Kp w (w.alloc (.cells #[.int .i64 f.k, .int .i64 f.a, .int .i64 f.b, .int .i64 f.c] 23)) from (Kp.refl w).alloc _)
  unfold fAgg at HT HRD HT2
  simp only at HT2
  rw [hSd] at HRD
  by_cases hn : textM f = []
  · have tn : (S.toList == []) = true := by rw [ByteArray.toList_eq, hSd, hn]; rfl
    have e := hl1 hn
    rw [e] at HRD
    simp only at HRD
    clear hl1 hl2 hn hsz hSd hS hT2 e hok hokf hm hm0
    go_enter Tryd.func3, Tryd.ntmps3
    go_upto_region 1 with fail
    generalize (w.alloc (.cells #[.int .i64 f.k, .int .i64 f.a, .int .i64 f.b, .int .i64 f.c] 23)) = W0 at HB HK ⊢
    obtain ⟨b0, b1, b2, b3, _⟩ := HB.out.cells
    go_upto_region 2 with (go_at_call 6; go_must (refine (HT.out _).mono ?_); rintro e w1 ⟨rfl, hk1⟩; have HK1 := hid (HK.out.trans hk1); clear hk1)
    have HC := hid (HRD.out w1 HK1.out)
    clear b0 b1 b2 b3
    go_upto_region 3 with (go_at_call 7; go_must (refine HC.out.mono ?_); rintro e w2 ⟨rfl, hk2⟩; have HK2 := hid (HK1.out.trans hk2); clear hk2)
    have HG := hid (show FB (w2.alloc (.cells #[.int .i64 0, .int .i64 0, .int .i64 0, .int .i64 0] 23)) w2.heap.size 0 0 0 0 from blk_new _ _)
    have HK3 := hid (show Kp w2 (w2.alloc (.cells #[.int .i64 0, .int .i64 0, .int .i64 0, .int .i64 0] 23)) from (Kp.refl _).alloc _)
    generalize (w2.alloc (.cells #[.int .i64 0, .int .i64 0, .int .i64 0, .int .i64 0] 23)) = W2 at HG HK3 ⊢
    go_wp2_with (go_at_call 6; go_must (refine (HT2.out _).mono ?_); rintro e w4 ⟨rfl, hk4⟩; have HK4 := hid ((HK2.out.trans HK3.out).trans hk4); obtain ⟨g0, g1, g2, g3, _⟩ := (HG.out.kp hk4).cells; clear hk4)
    go_ret
    exact ⟨rfl, HK4.out⟩
  · have tn : (S.toList == []) = false := by rw [ByteArray.toList_eq, hSd, beq_eq_false_iff_ne]; exact hn
    obtain ⟨⟨gk, ga, gb, gc⟩, e, hgo, hgk, hgt⟩ := hl2 hn
    have HTG := hid (fun w => ftext_any ⟨gk, ga, gb, gc⟩ hgo w)
    rw [hgt, hS] at HTG
    rw [e] at HRD
    unfold fAgg at HTG
    simp only at HRD HTG hgk
    have tk : (gk == f.k) = true := by rw [hgk]; simp
    have tS : (S.toList == S.toList) = true := by simp
    clear hl1 hl2 hn hsz hSd hS hT2 e hok hokf hm hm0 hgo hgt hgk
    go_enter Tryd.func3, Tryd.ntmps3
    go_upto_region 1 with fail
    generalize (w.alloc (.cells #[.int .i64 f.k, .int .i64 f.a, .int .i64 f.b, .int .i64 f.c] 23)) = W0 at HB HK ⊢
    obtain ⟨b0, b1, b2, b3, _⟩ := HB.out.cells
    go_upto_region 2 with (go_at_call 6; go_must (refine (HT.out _).mono ?_); rintro e w1 ⟨rfl, hk1⟩; have HK1 := hid (HK.out.trans hk1); have HB1 := hid (HB.out.kp hk1); clear hk1)
    have HC := hid (HRD.out w1 HK1.out)
    clear b0 b1 b2 b3
    go_upto_region 3 with (go_at_call 7; go_must (refine HC.out.mono ?_); rintro e w2 ⟨rfl, hk2⟩; have HK2 := hid (HK1.out.trans hk2); have HB2 := hid (HB1.out.kp hk2); clear hk2)
    have HG := hid (show FB (w2.alloc (.cells #[.int .i64 gk, .int .i64 ga, .int .i64 gb, .int .i64 gc] 23)) w2.heap.size gk ga gb gc from blk_new _ _)
    have HK3 := hid (show Kp w2 (w2.alloc (.cells #[.int .i64 gk, .int .i64 ga, .int .i64 gb, .int .i64 gc] 23)) from (Kp.refl _).alloc _)
    generalize (w2.alloc (.cells #[.int .i64 gk, .int .i64 ga, .int .i64 gb, .int .i64 gc] 23)) = W2 at HG HK3 ⊢
    go_upto_region 7 with (go_at_call 6; go_must (refine (HT2.out _).mono ?_); rintro e w4 ⟨rfl, hk4⟩; have HK4 := hid ((HK2.out.trans HK3.out).trans hk4); obtain ⟨g0, g1, g2, g3, _⟩ := (HG.out.kp hk4).cells; obtain ⟨b0, b1, b2, b3, _⟩ := ((HB2.out.kp HK3.out).kp hk4).cells; clear hk4)
    go_wp2_with (go_at_call 6; go_must (refine (HTG.out _).mono ?_); rintro e w5 ⟨rfl, hk5⟩)
    go_ret
    exact ⟨rfl, HK4.out.trans hk5⟩
/-! ### The row's step -/
set_option maxRecDepth 100000
theorem shapedMax {W : World} (h : W.ShapedOpen Tryd.prog) : ∃ m, W.cell? ⟨0, 0, none⟩ = some (.int .i64 m) := Tryd.laysM146.s1_3 W h
def litV : DataW Unit → Value
  | .lit (.int k n) => .int k n
  | _ => undef
def firstV : Array Value := match Go.Pinned.utf8First with
  | .agg l => (l.map litV).toArray
  | _ => #[]
def accV : Array Value := #[.int .u8 128, .int .u8 191, .int .u8 160, .int .u8 191, .int .u8 128, .int .u8 159, .int .u8 144, .int .u8 191, .int .u8 128, .int .u8 143, .int .u8 0, .int .u8 0, .int .u8 0, .int .u8 0, .int .u8 0, .int .u8 0, .int .u8 0, .int .u8 0, .int .u8 0, .int .u8 0, .int .u8 0, .int .u8 0, .int .u8 0, .int .u8 0, .int .u8 0, .int .u8 0, .int .u8 0, .int .u8 0, .int .u8 0, .int .u8 0, .int .u8 0, .int .u8 0]
def layCells (vs : Array Value) : Obj → Obj
  | .cells _ t frozen => .cells vs t frozen
  | o => o
/-- A world for the witness: the settled one, the library's tables holding what its text lays. -/
noncomputable def laidWorld (os : Os) : World :=
  { World.holding Tryd.prog os ⟨#[], #[], []⟩ with heap := ((World.holding Tryd.prog os ⟨#[], #[], []⟩).heap.modify 1 (layCells firstV)).modify 2 (layCells accV) }
theorem gFirst : Tryd.prog.globalNamed "unicode/utf8.first" = some 1 := by kernel_rfl
theorem gAcc : Tryd.prog.globalNamed "unicode/utf8.acceptRanges" = some 2 := by kernel_rfl
theorem laid_met (os : Os) : laidMet Tryd.prog Rows.faultBackRow.laid ((laidWorld os).forCall (fun _ _ => 0) ⟨#[], #[.agg #[.int .i64 0, .int .i64 0, .int .i64 0, .int .i64 0]], []⟩).memory :=
  laidMet_of_run' 8 (by kernel_rfl) (by kernel_rfl)
theorem reads (os : Os) {H : Type} (enc : TypeId × Value → H) : ∃ places, DataW.whole enc Tryd.prog ((laidWorld os).forCall (fun _ _ => 0) ⟨#[], #[.agg #[.int .i64 0, .int .i64 0, .int .i64 0, .int .i64 0]], []⟩).memory Tryd.f3.params.toList Rows.faultBackSpec.vars false (#[.agg #[.int .i64 0, .int .i64 0, .int .i64 0, .int .i64 0]] : Array Value).toList 8 = some ([.agg [.lit (.int .i64 0), .lit (.int .i64 0), .lit (.int .i64 0), .lit (.int .i64 0)]], [], places) :=
  ⟨[], by kernel_rfl⟩
theorem lifted (os : Os) (started : os.Started) (H : Type) (enc : TypeId × Value → H) (F : Stop.Interp) :
    ReturnsInHanded {} Tryd.checked os 3 .any ((OpenSpec.ofChange Rows.faultBackSpec).preRow enc Tryd.prog Tryd.f3 Rows.faultBackRow.domain false Rows.faultBackRow.laid) (((OpenSpec.ofChange Rows.faultBackSpec).at F).post enc Tryd.prog Tryd.f3 false true false false) := by
  obtain ⟨places, hx⟩ := reads os enc
  refine returnsInHanded_of_row (C := Tryd.checked) (s := OpenSpec.ofChange Rows.faultBackSpec) own started (by kernel_rfl) Tryd.func3
    (witness_row_at (enc := enc) (C := Tryd.checked) false (laidWorld os) #[.agg #[.int .i64 0, .int .i64 0, .int .i64 0, .int .i64 0]] rfl (by kernel_rfl) (by kernel_rfl) (by kernel_rfl)
      (OpenSpec.preRow_of_cond 8 hx (by kernel_rfl) (fun k hk => by cases hk) (by kernel_rfl) (laid_met os))) ?_
  intro W base args ds gs before hval0 hW _ _ hsz0 _ hsh _
  have hsz : (DataW.weightsEach Tryd.prog (Tryd.f3.params.toList ++ Rows.faultBackSpec.plain.varTypes Tryd.prog) (ds ++ gs)).all (· ≤ reachBytes) = true := hsz0
  clear hsz0
  obtain ⟨m, hm⟩ := shapedMax hsh
  have hval : ∀ (j : Nat) t v, Tryd.f3.params[j]? = some t → args[j]? = some v → Value.okWide Tryd.prog W .any base t v := hval0
  have hW' := hW
  obtain ⟨p, q, hA0, hV, rfl, hfz, hnd⟩ := hW
  have hA : DataW.TrodAll enc Tryd.prog W 0 (fun _ => true) true Tryd.f3.params.toList args.toList ds p := hA0
  rw [Tryd.params3] at hA hval hsz
  obtain ⟨v0, vs0, d0, ds0, p0, q0, hargs, rfl, rfl, h0, r0⟩ := trodAll_cons hA
  obtain ⟨rfl, rfl, rfl⟩ := trodAll_nil r0
  obtain rfl : args = #[v0] := by cases args; simp_all
  obtain ⟨rfl, rfl⟩ := trodVars_none hV
  have k0 := h0
  have lt0 : ∀ x ∈ p0, x.block < W.heap.size := by obtain ⟨m, hm⟩ := k0; exact DataW.trod_lt m _ _ _ hm
  have hz0 : ∀ n ∈ DataW.weights Tryd.prog 23 d0, n ≤ reachBytes := fun n hn => by
    have := List.all_eq_true.1 hsz _ (DataW.weights_mem_each (j := 0) rfl rfl n hn)
    simpa using this
  obtain ⟨a0, w0⟩ := open_fault (hval 0 23 v0 rfl rfl) h0 hz0
  clear hA0 hval0
  simp only [List.append_nil] at hW'
  refine (walk v0 a0 W w0 m hm).mono fun e W' ⟨he, bel⟩ => ?_
  subst he
  exact ⟨_, rfl, _, _, _, [], _, [], hW', trodAll_mk1 (shut_bool Tryd.underlying4 _), (trodAll_cons_mk (Below.trod laidOut (by kernel_rfl) (of_decide_eq_true (by kernel_rfl)) k0 bel lt0) trodAll_mk0), rfl, Below.frame bel _, fun h => by cases h⟩
theorem said : Rows.FaultBackSaid :=
  OpenClaim.holds_of_cond 3 Tryd.f3 rfl rfl rfl rfl rfl rfl rfl ⟨rfl, rfl, rfl, rfl, rfl⟩ rfl rfl rfl rfl rfl (by kernel_rfl) Tryd.func3 (by kernel_rfl)
    (of_decide_eq_true (by kernel_rfl)) (by unfold Func.isWrapper; first | (rw [if_pos (by decide +kernel)]; kernel_rfl) | (rw [if_neg (by decide +kernel)]; exact ⟨rfl, rfl⟩))
    (fun os started H enc _ F => by rw [OpenClaim.pre_eq_preRow]; exact lifted os started H enc F)
/-- No parameter wants a stand-in. -/
theorem plainP (f : FuncId) (fn : Func) (hf : Tryd.pinned.checked.prog.funcNamed "panicroad/panicroadkeep.FaultBack" = some f) (hfn : Tryd.pinned.checked.prog.funcs[f]? = some fn) :
    true = Tryd.pinned.checked.prog.looks [] ∧ ∀ (j : Nat) t, fn.params[j]? = some t → Tryd.pinned.checked.prog.wantsStandIn t = false := by
  obtain rfl : f = 3 := Option.some.inj ((show Tryd.prog.funcNamed "panicroad/panicroadkeep.FaultBack" = some 3 by kernel_rfl).symm.trans hf) |>.symm
  obtain rfl : fn = Tryd.f3 := (Option.some.inj (Tryd.func3.symm.trans hfn)).symm
  refine ⟨by kernel_rfl, fun j t ht => ?_⟩
  rw [Tryd.params3] at ht
  obtain rfl : t = 23 := by simpa using Array.mem_of_getElem? ht
  exact (show Tryd.prog.wantsStandIn 23 = false by kernel_rfl)
/-- THE CARD. -/
theorem proved : Rows.FaultBackCardSaid :=
  Claim7.holds_tied_plain_at .later [] _ _ _ _ said (fun _ h => by cases h) (by kernel_rfl) (fun _ h => by cases h) faultBack_row_tie rfl ⟨rfl, rfl⟩ (by kernel_rfl) rfl plainP (by kernel_rfl)
#print axioms proved
end Go.Proofs.YtiicdknmoakocaaDoor.faultBack
