/-
  The law ScanQuoteBack answers true for every text. No condition.
-/
import Derived.SizedLaws
import Derived.Test.YtmcidhjcimjeiaaRows
import Derived.Test.YtmcidhjcimjeiaaUnquoteP
namespace Go.Proofs.Ytmcidhjcimjeiaa.scanQuoteBack
open Go.ChangeShapes Go.WideShapes Go.ChangeAt Go.RowKit
open Go.ChangeMaps (open_string shut_string)
set_option linter.unusedVariables false

theorem own : ownKnob Try.prog.godebug = none := by kernel_rfl
theorem laidOut : laidOutB Try.prog = true := by kernel_rfl


theorem an (w : World) : Calls Try.prog 33 #[.string ⟨#[97, 10]⟩] w fun e w' => e = .returned (.tuple #[.string ⟨#[34, 97, 92, 110, 34]⟩, .int .i64 0]) ∧ Kp w w' := by
  refine (quote_short ⟨#[97, 10]⟩ w (by decide)).mono ?_
  rintro e w' ⟨⟨_, rfl⟩ | ⟨h, _⟩, hk⟩
  · exact ⟨rfl, hk⟩
  · exact absurd (by intro c hc; simp at hc; rcases hc with rfl | rfl <;> decide) h
theorem empty_not (w : World) : Calls Try.prog 34 #[.string ⟨#[]⟩] w fun e w' => e = .returned (.tuple #[.string ⟨#[]⟩, .int .i64 4]) ∧ Kp w w' :=
  unquote_not ⟨#[]⟩ w (by decide) (fun h2 => absurd h2 (by decide))
theorem self_eq (s : ByteArray) : (s.toList == (⟨s.data.toList.toArray⟩ : ByteArray).toList) = true := by simp
set_option maxHeartbeats 1000000 in
theorem walk (a0 : ByteArray) (w : World) (w0 : a0.size ≤ 140737488351232) :
    Calls Try.prog 9 #[.string a0] w fun e w' => e = .returned (.bool true) ∧ Kp w w' := by
  by_cases hs : a0.size ≤ 200
  · by_cases hok : okAll a0.data.toList
    · have hl := escs_len a0.data.toList
      rw [show a0.data.toList.length = a0.size from Array.length_toList] at hl
      have hl' : (escs a0.data.toList).length + 2 ≤ 140737488351232 := by omega
      have hu := unq_escs _ hok
      have hself := self_eq a0
      have HOK := hid hok; have HU := hid hu
      clear hok hu hl w0
      go_enter Try.func9, Try.ntmps9
      go_wp2_with fail
      refine (quote_short a0 _ hs).mono ?_
      rintro e w1 ⟨⟨_, rfl⟩ | ⟨h, _⟩, hk1⟩
      · go_wp2_with fail
        refine (unquote_mk (escs a0.data.toList) _ hl').mono ?_
        rintro e w2 ⟨⟨o, ho, _, rfl⟩ | ⟨h, _⟩, hk2⟩
        · obtain rfl : a0.data.toList = o := by
            have : some a0.data.toList = some o := HU.out.symm.trans ho
            cases this; rfl
          clear ho
          go_wp2_with fail
          refine (an _).mono ?_
          rintro e w3 ⟨rfl, hk3⟩
          go_wp2_with fail
          go_ret
          exact ⟨rfl, (hk1.trans hk2).trans hk3⟩
        · exact absurd (h _ HU.out) (by rw [show a0.data.toList.length = a0.size from Array.length_toList]; omega)
      · exact absurd HOK.out h
    · have HOK := hid hok
      clear hok w0
      go_enter Try.func9, Try.ntmps9
      go_wp2_with fail
      refine (quote_short a0 _ hs).mono ?_
      rintro e w1 ⟨⟨h, _⟩ | ⟨_, rfl⟩, hk1⟩
      · exact absurd h HOK.out
      · go_wp2_with fail
        refine (empty_not _).mono ?_
        rintro e w2 ⟨rfl, hk2⟩
        go_wp2_with fail
        refine (an _).mono ?_
        rintro e w3 ⟨rfl, hk3⟩
        go_wp2_with fail
        go_ret
        exact ⟨rfl, (hk1.trans hk2).trans hk3⟩
  · go_enter Try.func9, Try.ntmps9
    go_wp2_with fail
    refine (quote_long a0 _ (by omega) (by omega)).mono ?_
    rintro e w1 ⟨rfl, hk1⟩
    go_wp2_with fail
    refine (empty_not _).mono ?_
    rintro e w2 ⟨rfl, hk2⟩
    go_wp2_with fail
    refine (an _).mono ?_
    rintro e w3 ⟨rfl, hk3⟩
    go_wp2_with fail
    go_ret
    exact ⟨rfl, (hk1.trans hk2).trans hk3⟩

/-! ### The row's step (the guide's frame, written by program) -/
set_option maxRecDepth 100000 in
theorem lifted (os : Os) (started : os.Started) (H : Type) (enc : TypeId × Value → H) :
    ReturnsInHanded {} Try.checked os 9 .any (Rows.scanQuoteBackSpec.pre6 enc Try.prog Try.f9 Rows.scanQuoteBackRow.domain false) (Rows.scanQuoteBackSpec.post enc Try.prog Try.f9 false true false false) := by
  refine returnsInHanded_of_change_sized (C := Try.checked) own started (by kernel_rfl) Try.func9
    (ChangeSpec.witness6 (enc := enc) (C := Try.checked) false ⟨#[], #[.string ⟨#[]⟩], []⟩ 8 (by kernel_rfl) (by kernel_rfl) (by kernel_rfl) (by kernel_rfl)) ?_
  intro W base args ds gs before hval0 hW _ hsz0 _
  have hsz : (DataW.weightsEach Try.prog (Try.f9.params.toList ++ Rows.scanQuoteBackSpec.plain.varTypes Try.prog) (ds ++ gs)).all (· ≤ reachBytes) = true := hsz0
  clear hsz0
  have hval : ∀ (j : Nat) t v, Try.f9.params[j]? = some t → args[j]? = some v → Value.okWide Try.prog W .any base t v := hval0
  have hW' := hW
  obtain ⟨p, q, hA0, hV, rfl, hfz, hnd⟩ := hW
  have hA : DataW.TrodAll enc Try.prog W 0 (fun _ => true) true Try.f9.params.toList args.toList ds p := hA0
  rw [Try.params9] at hA hval hsz
  obtain ⟨v0, vs0, d0, ds0, p0, q0, hargs, rfl, rfl, h0, r0⟩ := trodAll_cons hA
  obtain ⟨rfl, rfl, rfl⟩ := trodAll_nil r0
  obtain rfl : args = #[v0] := by cases args; simp_all
  obtain ⟨rfl, rfl⟩ := trodVars_none hV
  have k0 := h0
  have lt0 : ∀ x ∈ p0, x.block < W.heap.size := by obtain ⟨m, hm⟩ := k0; exact DataW.trod_lt m _ _ _ hm
  have hz0 : ∀ n ∈ DataW.weights Try.prog 9 d0, n ≤ reachBytes := fun n hn => by
    have := List.all_eq_true.1 hsz _ (DataW.weights_mem_each (j := 0) rfl rfl n hn)
    simpa using this
  obtain ⟨a0, rfl, rfl, rfl, ws0⟩ := open_string Try.underlying9 (hval 0 9 v0 rfl rfl) h0
  have w0 : a0.size ≤ 140737488351232 := by
    have h := hz0 a0.data.toList.length (by simp [DataW.weights])
    rw [Array.length_toList] at h; exact h
  clear hA0 hval0
  simp only [List.append_nil] at hW'
  refine (walk a0 W w0).mono fun e W' ⟨he, bel⟩ => ?_
  subst he
  exact ⟨_, rfl, _, _, _, [], _, [], hW', trodAll_mk1 (shut_bool Try.underlying4 _), (trodAll_cons_mk (Below.trod laidOut (by kernel_rfl) (of_decide_eq_true (by kernel_rfl)) k0 bel lt0) trodAll_mk0), rfl, Below.frame bel _, fun h => by cases h⟩

theorem over : Rows.scanQuoteBackRow.holds Try.pinned (OpenSpec.ofChange Rows.scanQuoteBackSpec) :=
  OpenClaim.holds_of_wide 9 Try.f9 rfl rfl rfl rfl rfl rfl rfl ⟨rfl, rfl, rfl, rfl, rfl⟩ rfl rfl rfl rfl rfl (by kernel_rfl) Try.func9 (by kernel_rfl)
    (of_decide_eq_true (by kernel_rfl)) (by unfold Func.isWrapper; rw [if_neg (of_decide_eq_false (by kernel_rfl))]; exact ⟨rfl, rfl⟩)
    (fun os started H enc _ => lifted os started H enc)

/-- THE STATEMENT. -/
theorem proved : Rows.ScanQuoteBackSaid := over
#print axioms proved

end Go.Proofs.Ytmcidhjcimjeiaa.scanQuoteBack
