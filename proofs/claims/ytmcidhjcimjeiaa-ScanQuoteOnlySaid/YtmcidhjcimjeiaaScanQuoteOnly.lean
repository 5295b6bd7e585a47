/-
  The law ScanQuoteOnly answers true for every text. No condition.
-/
import Derived.SizedLaws
import Derived.Test.YtmcidhjcimjeiaaRows
import Derived.Test.YtmcidhjcimjeiaaUnquoteP
namespace Go.Proofs.Ytmcidhjcimjeiaa.scanQuoteOnly
open Go.ChangeShapes Go.WideShapes Go.ChangeAt Go.RowKit
open Go.ChangeMaps (open_string shut_string)
set_option linter.unusedVariables false

theorem own : ownKnob Try.prog.godebug = none := by kernel_rfl
theorem laidOut : laidOutB Try.prog = true := by kernel_rfl


theorem tb (w : World) : Calls Try.prog 34 #[.string ⟨#[34, 92, 116, 34]⟩] w fun e w' => e = .returned (.tuple #[.string ⟨#[9]⟩, .int .i64 0]) ∧ Kp w w' := by
  refine (unquote_mk [92, 116] w (by decide)).mono ?_
  rintro e w' ⟨⟨o, ho, _, rfl⟩ | ⟨h, _⟩, hk⟩
  · have : unq [92, 116] = some [9] := rfl
    cases this.symm.trans ho
    exact ⟨rfl, hk⟩
  · exact absurd (h [9] rfl) (by decide)
set_option maxHeartbeats 1000000 in
theorem walk (a0 : ByteArray) (w : World) (w0 : a0.size ≤ 140737488351232) :
    Calls Try.prog 10 #[.string a0] w fun e w' => e = .returned (.bool true) ∧ Kp w w' := by
  by_cases hq : ∃ l : List UInt8, a0 = ⟨(34 :: (l ++ [34])).toArray⟩
  · obtain ⟨l, rfl⟩ := hq
    have hl' : l.length + 2 ≤ 140737488351232 := by simpa [ByteArray.size] using w0
    clear w0
    go_enter Try.func10, Try.ntmps10
    go_wp2_with fail
    refine (unquote_mk l _ hl').mono ?_
    rintro e w1 ⟨⟨o, ho, hlo, rfl⟩ | ⟨h, rfl⟩, hk1⟩
    · obtain ⟨hok, he⟩ := escs_unq _ l o (Nat.le_refl _) ho
      have HOK := hid hok; have HE := hid he
      clear hok he ho
      go_wp2_with fail
      refine (tb _).mono ?_
      rintro e w2 ⟨rfl, hk2⟩
      go_wp2_with fail
      refine (quote_short ⟨o.toArray⟩ _ (by simpa [ByteArray.size] using hlo)).mono ?_
      rintro e w3 ⟨⟨_, rfl⟩ | ⟨h, _⟩, hk3⟩
      · have hfin : (34 :: (escs (⟨o.toArray⟩ : ByteArray).data.toList ++ [34]) == 34 :: (l ++ [34])) = true := by
          have : (⟨o.toArray⟩ : ByteArray).data.toList = o := by simp
          rw [this, HE.out]; simp
        have hes : escs (⟨o.toArray⟩ : ByteArray).data.toList = l := by
          have : (⟨o.toArray⟩ : ByteArray).data.toList = o := by simp
          rw [this, HE.out]
        rw [hes]
        clear hfin hes
        go_wp2_with fail
        go_ret
        exact ⟨by simp, (hk1.trans hk2).trans hk3⟩
      · exact absurd HOK.out h
    · go_wp2_with fail
      refine (tb _).mono ?_
      rintro e w2 ⟨rfl, hk2⟩
      go_wp2_with fail
      go_ret
      exact ⟨rfl, hk1.trans hk2⟩
  · have hn : ∀ h2 : 2 ≤ a0.size, ¬ (a0[0]'(by omega) = 34 ∧ a0[a0.size - 1]'(by omega) = 34) := fun h2 ⟨h3, h4⟩ => hq (quoted_form a0 h2 h3 h4)
    have HN := hid hn
    clear hq hn
    go_enter Try.func10, Try.ntmps10
    go_wp2_with fail
    refine (unquote_not a0 _ w0 HN.out).mono ?_
    rintro e w1 ⟨rfl, hk1⟩
    go_wp2_with fail
    refine (tb _).mono ?_
    rintro e w2 ⟨rfl, hk2⟩
    go_wp2_with fail
    go_ret
    exact ⟨rfl, hk1.trans hk2⟩

/-! ### The row's step (the guide's frame, written by program) -/
set_option maxRecDepth 100000 in
theorem lifted (os : Os) (started : os.Started) (H : Type) (enc : TypeId × Value → H) :
    ReturnsInHanded {} Try.checked os 10 .any (Rows.scanQuoteOnlySpec.pre6 enc Try.prog Try.f10 Rows.scanQuoteOnlyRow.domain false) (Rows.scanQuoteOnlySpec.post enc Try.prog Try.f10 false true false false) := by
  refine returnsInHanded_of_change_sized (C := Try.checked) own started (by kernel_rfl) Try.func10
    (ChangeSpec.witness6 (enc := enc) (C := Try.checked) false ⟨#[], #[.string ⟨#[]⟩], []⟩ 8 (by kernel_rfl) (by kernel_rfl) (by kernel_rfl) (by kernel_rfl)) ?_
  intro W base args ds gs before hval0 hW _ hsz0 _
  have hsz : (DataW.weightsEach Try.prog (Try.f10.params.toList ++ Rows.scanQuoteOnlySpec.plain.varTypes Try.prog) (ds ++ gs)).all (· ≤ reachBytes) = true := hsz0
  clear hsz0
  have hval : ∀ (j : Nat) t v, Try.f10.params[j]? = some t → args[j]? = some v → Value.okWide Try.prog W .any base t v := hval0
  have hW' := hW
  obtain ⟨p, q, hA0, hV, rfl, hfz, hnd⟩ := hW
  have hA : DataW.TrodAll enc Try.prog W 0 (fun _ => true) true Try.f10.params.toList args.toList ds p := hA0
  rw [Try.params10] at hA hval hsz
  obtain ⟨v0, vs0, d0, ds0, p0, q0, hargs, rfl, rfl, h0, r0⟩ := trodAll_cons hA
  obtain ⟨rfl, rfl, rfl⟩ := trodAll_nil r0
  obtain rfl : args = #[v0] := by cases args; simp_all
  obtain ⟨rfl, rfl⟩ := trodVars_none hV
  have k0 := h0
  have lt0 : ∀ x ∈ p0, x.block < W.heap.size := by obtain ⟨m, hm⟩ := k0; exact DataW.trod_lt m _ _ _ hm
  have hz0 : ∀ n ∈ DataW.weights Try.prog 9 d0, n ≤ reachBytes := fun n hn => by
    have := List.all_eq_true.1 hsz _ (DataW.weights_mem_each (j := 0) rfl rfl n hn)
    simpa using this
  obtain ⟨a0, rfl, rfl, rfl, ws0⟩ := open_string Try.underlying9 (hval 0 9 v0 rfl rfl) h0
  have w0 : a0.size ≤ 140737488351232 := by
    have h := hz0 a0.data.toList.length (by simp [DataW.weights])
    rw [Array.length_toList] at h; exact h
  clear hA0 hval0
  simp only [List.append_nil] at hW'
  refine (walk a0 W w0).mono fun e W' ⟨he, bel⟩ => ?_
  subst he
  exact ⟨_, rfl, _, _, _, [], _, [], hW', trodAll_mk1 (shut_bool Try.underlying4 _), (trodAll_cons_mk (Below.trod laidOut (by kernel_rfl) (of_decide_eq_true (by kernel_rfl)) k0 bel lt0) trodAll_mk0), rfl, Below.frame bel _, fun h => by cases h⟩

theorem over : Rows.scanQuoteOnlyRow.holds Try.pinned (OpenSpec.ofChange Rows.scanQuoteOnlySpec) :=
  OpenClaim.holds_of_wide 10 Try.f10 rfl rfl rfl rfl rfl rfl rfl ⟨rfl, rfl, rfl, rfl, rfl⟩ rfl rfl rfl rfl rfl (by kernel_rfl) Try.func10 (by kernel_rfl)
    (of_decide_eq_true (by kernel_rfl)) (by unfold Func.isWrapper; rw [if_neg (of_decide_eq_false (by kernel_rfl))]; exact ⟨rfl, rfl⟩)
    (fun os started H enc _ => lifted os started H enc)

/-- THE STATEMENT. -/
theorem proved : Rows.ScanQuoteOnlySaid := over
#print axioms proved

end Go.Proofs.Ytmcidhjcimjeiaa.scanQuoteOnly
