/-
  The law DefersTwice answers true for all lists of calls. No condition.
-/
import Derived.SizedLaws
import Derived.Test.YtmcidhjcimjeiaaRows
import Derived.Test.YtmcidhjcimjeiaaOrder
namespace Go.Proofs.Ytmcidhjcimjeiaa.defersTwice
open Go.ChangeShapes Go.WideShapes Go.ChangeAt Go.RowKit
open Go.ChangeMaps (open_string shut_string)
set_option linter.unusedVariables false

theorem own : ownKnob Try.prog.godebug = none := by kernel_rfl
theorem laidOut : laidOutB Try.prog = true := by kernel_rfl


def lit2 : List CallM := [⟨1, 0, []⟩, ⟨2, 0, []⟩]
theorem rd_lit2 (w : World) : RdCalls (w.alloc (.cells #[.int .i64 1, .int .i64 0, .slice none 0 0, .int .i64 2, .int .i64 0, .slice none 0 0] 25)) (.slice (some ⟨w.heap.size, 0, none⟩) 2 2) lit2 := by
  refine ⟨_, _, rfl, by simp [lit2], fun i a hi => ?_⟩
  have hc : ∀ j, (w.alloc (.cells #[.int .i64 1, .int .i64 0, .slice none 0 0, .int .i64 2, .int .i64 0, .slice none 0 0] 25)).cell? ⟨w.heap.size, j, none⟩ = (#[.int .i64 1, .int .i64 0, .slice none 0 0, .int .i64 2, .int .i64 0, .slice none 0 0] : Array Value)[j]? := fun j => World.cell?_alloc_new _ _ _ _
  match i, hi with
  | 0, hi =>
    simp [lit2] at hi; subst hi
    refine ⟨_, 0, [.int .i64 1, .int .i64 0, .slice none 0 0], rfl, by simp, ⟨_, rfl, by unfold okI; decide, by unfold okI; decide, RdInts.nil_ _, by decide⟩, rfl, fun j hj => ?_⟩
    rw [hc]
    match j, hj with
    | 0, _ => rfl
    | 1, _ => rfl
    | 2, _ => rfl
  | 1, hi =>
    simp [lit2] at hi; subst hi
    refine ⟨_, 0, [.int .i64 2, .int .i64 0, .slice none 0 0], rfl, by simp, ⟨_, rfl, by unfold okI; decide, by unfold okI; decide, RdInts.nil_ _, by decide⟩, rfl, fun j hj => ?_⟩
    rw [hc]
    match j, hj with
    | 0, _ => rfl
    | 1, _ => rfl
    | 2, _ => rfl
  | n + 2, hi => simp [lit2] at hi
set_option maxRecDepth 20000 in
set_option maxHeartbeats 1000000 in
theorem walk (v0 : Value) (a0 : List CallM) (w : World) (w0 : RdCallsB w v0 a0) :
    Calls Try.prog 5 #[v0] w fun e w' => e = .returned (.bool true) ∧ Kp w w' := by
  obtain ⟨R0, b0⟩ := w0
  have R0' : RdCalls w v0 a0 := R0
  have HL := hid R0'
  have hl : (a0.length + 1) * 40 ≤ 140737488355328 := by omega
  have hl3 : a0.length * 40 ≤ 140737488355328 := by omega
  have hl2 : (a0.reverse.length + 1) * 40 ≤ 140737488355328 := by rw [List.length_reverse]; exact hl
  have hl4 : (lit2.length + 1) * 40 ≤ 140737488355328 := by decide
  obtain ⟨A, c, rfl, hlc⟩ := R0.form
  clear R0 R0'
  have tok1 : True := trivial
  have tok2 : True := trivial
  go_enter Try.func5, Try.ntmps5
  go_wp2_with fail
  have hc := calls_any _ a0 _ HL.out hl
  refine hc.mono ?_; clear hc
  rintro e w1 ⟨⟨v1, rfl, h1⟩, hk1⟩
  go_wp2_with fail
  have hc := order_recs _ a0 _ h1.rd hl
  refine hc.mono ?_; clear hc
  rintro e w2 ⟨⟨v2, rfl, h2⟩, hk2⟩
  go_wp2_with fail
  have hc := calls_any _ a0.reverse _ h2.rd hl2
  refine hc.mono ?_; clear hc
  rintro e w3 ⟨⟨v3, rfl, h3⟩, hk3⟩
  go_wp2_with fail
  have hc := order_recs _ a0.reverse _ h3.rd hl2
  refine hc.mono ?_; clear hc
  rintro e w4 ⟨⟨v4, rfl, h4⟩, hk4⟩
  rw [List.reverse_reverse] at h4
  go_wp2_with fail
  have hc := order_recs _ lit2 _ (rd_lit2 w4) hl4
  refine hc.mono ?_; clear hc
  rintro e w5 ⟨⟨v5, rfl, h5⟩, hk5⟩
  obtain ⟨b, off, c5, rfl, hc5, hp⟩ := pt_call (i := 0) (m := ⟨2, 0, []⟩) h5.rd rfl
  obtain ⟨la, _, p0, _, _⟩ := hp.rd
  have hl5 : lit2.reverse.length = 2 := rfl
  rw [hl5] at *
  simp only [Nat.zero_mul, Nat.add_zero] at p0
  clear hp hl5 hc5 h5
  have hkw : Kp w w4 := ((hk1.trans hk2).trans hk3).trans hk4
  have HS := hid (h4.rd.kp (((Kp.refl _).alloc (.cells #[.int .i64 1, .int .i64 0, .slice none 0 0, .int .i64 2, .int .i64 0, .slice none 0 0] 25)).trans hk5))
  have HL5 := hid (HL.out.kp ((hkw.alloc (.cells #[.int .i64 1, .int .i64 0, .slice none 0 0, .int .i64 2, .int .i64 0, .slice none 0 0] 25)).trans hk5))
  go_wp2_with (go_at_call 18; go_must (refine (sameCalls_eq _ _ a0 _ HS.out HL5.out hl3).mono ?_); rintro e w6 ⟨rfl, hk6⟩)
  go_ret
  exact ⟨rfl, ((hkw.alloc _).trans hk5).trans hk6⟩

/-! ### The row's step (the guide's frame, written by program) -/
set_option maxRecDepth 100000 in
theorem lifted (os : Os) (started : os.Started) (H : Type) (enc : TypeId × Value → H) :
    ReturnsInHanded {} Try.checked os 5 .any (Rows.defersTwiceSpec.pre6 enc Try.prog Try.f5 Rows.defersTwiceRow.domain false) (Rows.defersTwiceSpec.post enc Try.prog Try.f5 false true false false) := by
  refine returnsInHanded_of_change_sized (C := Try.checked) own started (by kernel_rfl) Try.func5
    (ChangeSpec.witness6 (enc := enc) (C := Try.checked) false ⟨#[], #[.slice none 0 0], []⟩ 8 (by kernel_rfl) (by kernel_rfl) (by kernel_rfl) (by kernel_rfl)) ?_
  intro W base args ds gs before hval0 hW _ hsz0 _
  have hsz : (DataW.weightsEach Try.prog (Try.f5.params.toList ++ Rows.defersTwiceSpec.plain.varTypes Try.prog) (ds ++ gs)).all (· ≤ reachBytes) = true := hsz0
  clear hsz0
  have hval : ∀ (j : Nat) t v, Try.f5.params[j]? = some t → args[j]? = some v → Value.okWide Try.prog W .any base t v := hval0
  have hW' := hW
  obtain ⟨p, q, hA0, hV, rfl, hfz, hnd⟩ := hW
  have hA : DataW.TrodAll enc Try.prog W 0 (fun _ => true) true Try.f5.params.toList args.toList ds p := hA0
  rw [Try.params5] at hA hval hsz
  obtain ⟨v0, vs0, d0, ds0, p0, q0, hargs, rfl, rfl, h0, r0⟩ := trodAll_cons hA
  obtain ⟨rfl, rfl, rfl⟩ := trodAll_nil r0
  obtain rfl : args = #[v0] := by cases args; simp_all
  obtain ⟨rfl, rfl⟩ := trodVars_none hV
  have k0 := h0
  have lt0 : ∀ x ∈ p0, x.block < W.heap.size := by obtain ⟨m, hm⟩ := k0; exact DataW.trod_lt m _ _ _ hm
  have hz0 : ∀ n ∈ DataW.weights Try.prog 22 d0, n ≤ reachBytes := fun n hn => by
    have := List.all_eq_true.1 hsz _ (DataW.weights_mem_each (j := 0) rfl rfl n hn)
    simpa using this
  obtain ⟨a0, w0⟩ := open_calls (hval 0 22 v0 rfl rfl) h0 hz0
  clear hA0 hval0
  simp only [List.append_nil] at hW'
  refine (walk v0 a0 W w0).mono fun e W' ⟨he, bel⟩ => ?_
  subst he
  exact ⟨_, rfl, _, _, _, [], _, [], hW', trodAll_mk1 (shut_bool Try.underlying4 _), (trodAll_cons_mk (Below.trod laidOut (by kernel_rfl) (of_decide_eq_true (by kernel_rfl)) k0 bel lt0) trodAll_mk0), rfl, Below.frame bel _, fun h => by cases h⟩

theorem over : Rows.defersTwiceRow.holds Try.pinned (OpenSpec.ofChange Rows.defersTwiceSpec) :=
  OpenClaim.holds_of_wide 5 Try.f5 rfl rfl rfl rfl rfl rfl rfl ⟨rfl, rfl, rfl, rfl, rfl⟩ rfl rfl rfl rfl rfl (by kernel_rfl) Try.func5 (by kernel_rfl)
    (of_decide_eq_true (by kernel_rfl)) (by unfold Func.isWrapper; rw [if_neg (of_decide_eq_false (by kernel_rfl))]; exact ⟨rfl, rfl⟩)
    (fun os started H enc _ => lifted os started H enc)

/-- THE STATEMENT. -/
theorem proved : Rows.DefersTwiceSaid := over
#print axioms proved

end Go.Proofs.Ytmcidhjcimjeiaa.defersTwice
