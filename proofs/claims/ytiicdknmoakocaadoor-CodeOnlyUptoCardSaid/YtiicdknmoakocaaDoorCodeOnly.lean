/-
  The law CodeOnly answers true for every text (the card: the library's tables are tied to the program's text). Condition: the text is of bulk at most 2^20.
-/
import Derived.SizedLaws
import Derived.Deep.CondSized
import Derived.Test.YtiicdknmoakocaaDoorRows
import Derived.Test.YtiicdknmoakocaaDoorTkR
import Derived.Test.YtiicdknmoakocaaDoorCodeS
import Derived.Test.YtiicdknmoakocaaDoorCards
import Derived.Test.YtiicdknmoakocaaDoorTie
import Derived.Deep.DeepHandedRow
namespace Go.Proofs.YtiicdknmoakocaaDoor.codeOnly
open Go.ChangeShapes Go.WideShapes Go.ChangeAt Go.RowKit
open Go.ChangeMaps (open_string shut_string)
set_option linter.unusedVariables false
set_option linter.unusedSimpArgs false

theorem own : ownKnob Tryd.prog.godebug = none := by kernel_rfl
theorem laidOut : laidOutB Tryd.prog = true := by kernel_rfl


theorem least_shown : showM leastM ≠ [] := by
  unfold showM leastM
  simp [funLn, headLn, funcP]
set_option maxRecDepth 20000 in
set_option maxHeartbeats 4000000 in
theorem walk (s : ByteArray) (hs : s.size < 4294967281) (w : World) (m : Int) (hm : w.cell? ⟨0, 0, none⟩ = some (.int .i64 m)) :
    Calls Tryd.prog 5 #[.string s] w fun e w' => e = .returned (.bool true) ∧ Kp w w' := by
  have HRD := hid (cread_any s hs m w hm)
  obtain ⟨T, hT⟩ : ∃ T : ByteArray, (⟨(showM leastM).toArray⟩ : ByteArray) = T := ⟨_, rfl⟩
  have tT : T.toList.isEmpty = false := by
    rw [ByteArray.toList_eq, ← hT]
    show (showM leastM).isEmpty = false
    cases h : showM leastM with
    | nil => exact absurd h least_shown
    | cons a b => rfl
  have HSL := hid (fun u v (h : RdCode u v leastM) => show_ok u v leastM h (by rw [least_sound]))
  rw [hT] at HSL
  clear hT hm hs
  cases hc : creadM s with
  | none =>
    have HR2 := hid (show Calls Tryd.prog 12 #[.string s] w fun e w' => e = .returned (.tuple #[.agg #[.slice none 0 0, .slice none 0 0], .int .i64 6]) ∧ Kp w w' from HRD.out.mono (by
      rintro e w' ⟨⟨c, v, h1, _⟩ | ⟨_, h2⟩, hk⟩
      · rw [hc] at h1; cases h1
      · exact ⟨h2, hk⟩))
    clear hc HRD
    go_enter Tryd.func5, Tryd.ntmps5
    go_upto_region 2 with (go_at_call 12; go_must (refine HR2.out.mono ?_); rintro e w1 ⟨rfl, hk1⟩; have HK1 := hid hk1; clear hk1)
    have HBX := hid (blk_new w1 (.cells #[.slice none 0 0, .slice none 0 0] 32))
    have HK2 := hid (HK1.out.alloc (.cells #[.slice none 0 0, .slice none 0 0] 32))
    generalize (w1.alloc (.cells #[.slice none 0 0, .slice none 0 0] 32)) = W at HBX HK2 ⊢
    generalize w1.heap.size = n1 at HBX ⊢
    go_upto_region 3 with first | (go_at_call 14; go_must (refine (least_any _).mono ?_); rintro e w3 ⟨⟨v3, rfl, ho3⟩, hk3⟩; have HO3 := hid (HSL.out _ _ ho3.rd); have HK3 := hid hk3; clear ho3 hk3) | (go_at_call 8; go_must (refine HO3.out.mono ?_); rintro e w4 ⟨rfl, hk4⟩; have HK4 := hid (HK3.out.trans hk4); clear hk4)
    have HB4 := hid ((HK4.out.block _ (blk_lt HBX.out)).trans HBX.out)
    have q0 := blk_cell (o := 0) (v := Value.slice none 0 0) HB4.out rfl
    have ql := blk_lt HB4.out
    go_wp2
    go_ret
    exact ⟨rfl, HK2.out.trans HK4.out⟩
  | some c =>
    obtain ⟨hsd, hsh⟩ := creadM_show hc
    have HR2 := hid (show Calls Tryd.prog 12 #[.string s] w fun e w' => (∃ v, e = .returned (.tuple #[v, .int .i64 0]) ∧ OCode w' w.heap.size v c) ∧ Kp w w' from HRD.out.mono (by
      rintro e w' ⟨⟨c', v, h1, h2, h3⟩ | ⟨h1, _⟩, hk⟩
      · rw [hc] at h1; injection h1 with h1; subst h1; exact ⟨⟨v, h2, h3⟩, hk⟩
      · rw [hc] at h1; cases h1))
    have HSC := hid (fun u v (h : RdCode u v c) => show_ok u v c h hsd)
    rw [show (⟨(showM c).toArray⟩ : ByteArray) = s from by rw [hsh]] at HSC
    have tS : (s.toList == s.toList) = true := by simp
    clear hc HRD hsd hsh
    go_enter Tryd.func5, Tryd.ntmps5
    go_upto_region 2 with (go_at_call 12; go_must (refine HR2.out.mono ?_); rintro e w1 ⟨⟨v1, rfl, ho1⟩, hk1⟩; have HK1 := hid hk1; have HO1 := hid ho1; obtain ⟨vf, vt, rfl, hf1, hf2, _⟩ := ho1; obtain ⟨xf, hf1, _⟩ := hf1; obtain ⟨xt, hf2, _⟩ := hf2; obtain ⟨Af, cf, rfl⟩ := own_form hf1; obtain ⟨At, ct, rfl⟩ := own_form hf2; clear hk1 hf1 hf2)
    have HBX := hid (blk_new w1 (.cells #[.slice Af c.funcs.length cf, .slice At c.texts.length ct] 32))
    have HK2 := hid (HK1.out.alloc (.cells #[.slice Af c.funcs.length cf, .slice At c.texts.length ct] 32))
    have HO2 := hid (HO1.out.kp ((Kp.refl w1).alloc (.cells #[.slice Af c.funcs.length cf, .slice At c.texts.length ct] 32)))
    generalize (w1.alloc (.cells #[.slice Af c.funcs.length cf, .slice At c.texts.length ct] 32)) = W at HBX HK2 HO2 ⊢
    generalize w1.heap.size = n1 at HBX ⊢
    go_upto_region 3 with first | (go_at_call 14; go_must (refine (least_any _).mono ?_); rintro e w3 ⟨⟨v3, rfl, ho3⟩, hk3⟩; have HO3 := hid (HSL.out _ _ ho3.rd); have HK3 := hid hk3; clear ho3 hk3) | (go_at_call 8; go_must (refine HO3.out.mono ?_); rintro e w4 ⟨rfl, hk4⟩; have HK4 := hid (HK3.out.trans hk4); clear hk4)
    have HB4 := hid ((HK4.out.block _ (blk_lt HBX.out)).trans HBX.out)
    have q0 := blk_cell (o := 0) (v := Value.slice Af c.funcs.length cf) HB4.out rfl
    have q1 := blk_cell (o := 1) (v := Value.slice At c.texts.length ct) HB4.out rfl
    have ql := blk_lt HB4.out
    have HS4 := hid (HSC.out w4 _ (HO2.out.kp HK4.out).rd)
    go_wp2_with (go_at_call 8; go_must (refine HS4.out.mono ?_); rintro e w5 ⟨rfl, hk5⟩; have HK5 := hid hk5; clear hk5)
    go_ret
    exact ⟨rfl, (HK2.out.trans HK4.out).trans HK5.out⟩
/-! ### The row's step -/
set_option maxRecDepth 100000
theorem shapedMax {W : World} (h : W.ShapedOpen Tryd.prog) : ∃ m, W.cell? ⟨0, 0, none⟩ = some (.int .i64 m) := Tryd.laysM146.s1_3 W h
def litV : DataW Unit → Value
  | .lit (.int k n) => .int k n
  | _ => undef
def firstV : Array Value := match Go.Pinned.utf8First with
  | .agg l => (l.map litV).toArray
  | _ => #[]
def accV : Array Value := #[.int .u8 128, .int .u8 191, .int .u8 160, .int .u8 191, .int .u8 128, .int .u8 159, .int .u8 144, .int .u8 191, .int .u8 128, .int .u8 143, .int .u8 0, .int .u8 0, .int .u8 0, .int .u8 0, .int .u8 0, .int .u8 0, .int .u8 0, .int .u8 0, .int .u8 0, .int .u8 0, .int .u8 0, .int .u8 0, .int .u8 0, .int .u8 0, .int .u8 0, .int .u8 0, .int .u8 0, .int .u8 0, .int .u8 0, .int .u8 0, .int .u8 0, .int .u8 0]
def layCells (vs : Array Value) : Obj → Obj
  | .cells _ t frozen => .cells vs t frozen
  | o => o
/-- A world for the witness: the settled one, the library's tables holding what its text lays. -/
noncomputable def laidWorld (os : Os) : World :=
  { World.holding Tryd.prog os ⟨#[], #[], []⟩ with heap := ((World.holding Tryd.prog os ⟨#[], #[], []⟩).heap.modify 1 (layCells firstV)).modify 2 (layCells accV) }
theorem gFirst : Tryd.prog.globalNamed "unicode/utf8.first" = some 1 := by kernel_rfl
theorem gAcc : Tryd.prog.globalNamed "unicode/utf8.acceptRanges" = some 2 := by kernel_rfl
theorem laid_met (os : Os) : laidMet Tryd.prog Rows.codeOnlyUptoRow.laid ((laidWorld os).forCall (fun _ _ => 0) ⟨#[], #[.string ⟨#[]⟩], []⟩).memory :=
  laidMet_of_run' 8 (by kernel_rfl) (by kernel_rfl)
theorem reads (os : Os) {H : Type} (enc : TypeId × Value → H) : ∃ places, DataW.whole enc Tryd.prog ((laidWorld os).forCall (fun _ _ => 0) ⟨#[], #[.string ⟨#[]⟩], []⟩).memory Tryd.f5.params.toList Rows.codeOnlySpec.vars false (#[.string ⟨#[]⟩] : Array Value).toList 8 = some ([.lit (.string [])], [], places) :=
  ⟨[], by kernel_rfl⟩
theorem lifted (os : Os) (started : os.Started) (H : Type) (enc : TypeId × Value → H) (F : Stop.Interp) :
    ReturnsInHanded {} Tryd.checked os 5 .any ((Rows.OpenSpec.upto Rows.codeOnlySpec).preRow enc Tryd.prog Tryd.f5 Rows.codeOnlyUptoRow.domain false Rows.codeOnlyUptoRow.laid) (((Rows.OpenSpec.upto Rows.codeOnlySpec).at F).post enc Tryd.prog Tryd.f5 false true false false) := by
  obtain ⟨places, hx⟩ := reads os enc
  refine returnsInHanded_of_row (C := Tryd.checked) (s := Rows.OpenSpec.upto Rows.codeOnlySpec) own started (by kernel_rfl) Tryd.func5
    (witness_row_at (enc := enc) (C := Tryd.checked) false (laidWorld os) #[.string ⟨#[]⟩] rfl (by kernel_rfl) (by kernel_rfl) (by kernel_rfl)
      (OpenSpec.preRow_of_cond 8 hx (by kernel_rfl) (fun k hk => by injection hk with hk; subst hk; kernel_rfl) (by kernel_rfl) (laid_met os))) ?_
  intro W base args ds gs before hval0 hW _ hcond hsz0 _ hsh _
  have hsz : (DataW.weightsEach Tryd.prog (Tryd.f5.params.toList ++ Rows.codeOnlySpec.plain.varTypes Tryd.prog) (ds ++ gs)).all (· ≤ reachBytes) = true := hsz0
  clear hsz0
  obtain ⟨m, hm⟩ := shapedMax hsh
  have hval : ∀ (j : Nat) t v, Tryd.f5.params[j]? = some t → args[j]? = some v → Value.okWide Tryd.prog W .any base t v := hval0
  have hW' := hW
  obtain ⟨p, q, hA0, hV, rfl, hfz, hnd⟩ := hW
  have hA : DataW.TrodAll enc Tryd.prog W 0 (fun _ => true) true Tryd.f5.params.toList args.toList ds p := hA0
  rw [Tryd.params5] at hA hval hsz
  obtain ⟨v0, vs0, d0, ds0, p0, q0, hargs, rfl, rfl, h0, r0⟩ := trodAll_cons hA
  obtain ⟨rfl, rfl, rfl⟩ := trodAll_nil r0
  obtain rfl : args = #[v0] := by cases args; simp_all
  obtain ⟨rfl, rfl⟩ := trodVars_none hV
  have k0 := h0
  have lt0 : ∀ x ∈ p0, x.block < W.heap.size := by obtain ⟨m, hm⟩ := k0; exact DataW.trod_lt m _ _ _ hm
  have hk0 := hcond _ rfl
  have hbk : Rows.uptoBulkAll [d0] ≤ 1048576 := of_decide_eq_true hk0
  simp only [Rows.uptoBulkAll] at hbk
  obtain ⟨a0, rfl, rfl, rfl, ws0⟩ := open_string Tryd.underlying9 (hval 0 9 v0 rfl rfl) h0
  have w0 : a0.size < 4294967281 := by
    have h : a0.data.toList.length + 1 + 0 ≤ 1048576 := hbk
    rw [Array.length_toList] at h
    show a0.data.size < _
    omega
  clear hA0 hval0
  simp only [List.append_nil] at hW'
  refine (walk a0 w0 W m hm).mono fun e W' ⟨he, bel⟩ => ?_
  subst he
  exact ⟨_, rfl, _, _, _, [], _, [], hW', trodAll_mk1 (shut_bool Tryd.underlying4 _), (trodAll_cons_mk (Below.trod laidOut (by kernel_rfl) (of_decide_eq_true (by kernel_rfl)) k0 bel lt0) trodAll_mk0), rfl, Below.frame bel _, fun h => by cases h⟩
theorem said : Rows.CodeOnlyUptoSaid :=
  OpenClaim.holds_of_cond 5 Tryd.f5 rfl rfl rfl rfl rfl rfl rfl ⟨rfl, rfl, rfl, rfl, rfl⟩ rfl rfl rfl rfl rfl (by kernel_rfl) Tryd.func5 (by kernel_rfl)
    (of_decide_eq_true (by kernel_rfl)) (by unfold Func.isWrapper; first | (rw [if_pos (by decide +kernel)]; kernel_rfl) | (rw [if_neg (by decide +kernel)]; exact ⟨rfl, rfl⟩))
    (fun os started H enc _ F => by rw [OpenClaim.pre_eq_preRow]; exact lifted os started H enc F)
/-- No parameter wants a stand-in. -/
theorem plainP (f : FuncId) (fn : Func) (hf : Tryd.pinned.checked.prog.funcNamed "panicroad/panicroadkeep.CodeOnly" = some f) (hfn : Tryd.pinned.checked.prog.funcs[f]? = some fn) :
    true = Tryd.pinned.checked.prog.looks [] ∧ ∀ (j : Nat) t, fn.params[j]? = some t → Tryd.pinned.checked.prog.wantsStandIn t = false := by
  obtain rfl : f = 5 := Option.some.inj ((show Tryd.prog.funcNamed "panicroad/panicroadkeep.CodeOnly" = some 5 by kernel_rfl).symm.trans hf) |>.symm
  obtain rfl : fn = Tryd.f5 := (Option.some.inj (Tryd.func5.symm.trans hfn)).symm
  refine ⟨by kernel_rfl, fun j t ht => ?_⟩
  rw [Tryd.params5] at ht
  obtain rfl : t = 9 := by simpa using Array.mem_of_getElem? ht
  exact (show Tryd.prog.wantsStandIn 9 = false by kernel_rfl)
/-- THE CARD. -/
theorem proved : Rows.CodeOnlyUptoCardSaid :=
  Claim7.holds_tied_plain_at .later [] _ _ _ _ said (fun _ h => by cases h) (by kernel_rfl) (fun _ h => by cases h) codeOnlyUpto_row_tie rfl ⟨rfl, rfl⟩ (by kernel_rfl) rfl plainP (by kernel_rfl)
#print axioms proved
end Go.Proofs.YtiicdknmoakocaaDoor.codeOnly
