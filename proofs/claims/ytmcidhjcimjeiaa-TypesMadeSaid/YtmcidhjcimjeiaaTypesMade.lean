/-
  The law TypesMade answers true for all parameters and results. No condition.
-/
import Derived.SizedLaws
import Derived.Deep.CondSized
import Derived.Test.YtmcidhjcimjeiaaRows
import Derived.Test.YtmcidhjcimjeiaaTypesH
import Derived.Test.YtmcidhjcimjeiaaStrArg
namespace Go.Proofs.Ytmcidhjcimjeiaa.typesMade
open Go.ChangeShapes Go.WideShapes Go.ChangeAt Go.RowKit
open Go.ChangeMaps (open_string shut_string)
set_option linter.unusedVariables false

theorem own : ownKnob Try.prog.godebug = none := by kernel_rfl
theorem laidOut : laidOutB Try.prog = true := by kernel_rfl


theorem const_func : funcM [⟨#[105, 110, 116]⟩] ⟨#[]⟩ = ([102, 117, 110, 99, 40, 105, 110, 116, 41], 0) := by decide +kernel
theorem func_made {l : List ByteArray} {R : ByteArray} {t : Bs} (h : funcM l R = (t, 0)) : partsM t = some (partsOf l ++ [R.data.toList]) ∧ t.length ≤ 100 := by
  unfold funcM at h
  split at h
  · cases h
  · rename_i h4
    split at h
    · cases h
    · rename_i hv
      split at h
      · cases h
      · rename_i hq
        split at h
        · cases h
        · rename_i hl
          cases h
          refine ⟨?_, by omega⟩
          unfold madeB at hl ⊢
          refine parts_made (by unfold partsOf; rw [List.length_map]; omega) ?_ ?_ (by omega)
          · have : (partsOf l).all validB = true := by simpa using hv
            exact fun p hp => List.all_eq_true.1 this p hp
          · intro h0
            simp only [Bool.and_eq_true, Bool.not_eq_true', beq_eq_false_iff_ne, ne_eq, not_and, Bool.not_eq_false] at hq
            exact hq h0
theorem func_code (l : List ByteArray) (R : ByteArray) : (∃ t, funcM l R = (t, 0)) ∨ ∃ k, k ≠ 0 ∧ funcM l R = ([], k) := by
  unfold funcM
  split
  · exact .inr ⟨15, by decide, rfl⟩
  · split
    · exact .inr ⟨9, by decide, rfl⟩
    · split
      · exact .inr ⟨9, by decide, rfl⟩
      · split
        · exact .inr ⟨1, by decide, rfl⟩
        · exact .inl ⟨_, rfl⟩
theorem parts_strs (l : List ByteArray) : (partsOf l).map bsB = l := by
  unfold partsOf; rw [List.map_map]
  have : bsB ∘ (fun x : ByteArray => x.data.toList) = id := by funext x; exact bs_self x
  rw [this, List.map_id]
theorem lit_strs (w : World) (x : ByteArray) (T : TypeId) : RdS (w.alloc (.cells #[.string x] T)) (.slice (some ⟨w.heap.size, 0, none⟩) 1 1) [x] := by
  refine ⟨_, 1, rfl, Nat.le_refl _, fun i y hi => ⟨w.heap.size, 0, rfl, by simp, ?_⟩⟩
  cases i with
  | zero => simp at hi; subst hi; simp
  | succ i => simp at hi
theorem rds_at {w : World} {A : Option Addr} {n c : Nat} {l : List ByteArray} {i : Nat} {x : ByteArray} (h : RdS w (.slice A n c) l) (hi : l[i]? = some x) : ∃ b off, A = some ⟨b, off, none⟩ ∧ b < w.heap.size ∧ w.cell? ⟨b, off + i, none⟩ = some (.string x) := by
  obtain ⟨_, _, e, _, hc⟩ := h
  cases e
  exact hc i x hi
set_option maxRecDepth 20000 in
set_option maxHeartbeats 4000000 in
theorem walk (v0 : Value) (a0 : List ByteArray) (a1 : ByteArray) (w : World) (w0 : RdStrs w v0 a0) (w1 : a1.size ≤ 140737488351232) :
    Calls Try.prog 14 #[v0, .string a1] w fun e w' => e = .returned (.bool true) ∧ Kp w w' := by
  obtain ⟨hr, hl, hx⟩ := w0
  have HR := hid hr; have HX := hid hx
  obtain ⟨n, hn⟩ : ∃ n, a0.length = n := ⟨_, rfl⟩
  have HN := hid hn
  have hw1 := w1
  have q1 := const_func
  have Q1 := hid q1
  obtain ⟨A, c, rfl, hc, _⟩ := hr
  rw [hn] at HR hl hc ⊢
  clear w1 hx q1 hn
  have hf := func_any
  have HFU := hid hf
  clear hf
  rcases func_code a0 a1 with ⟨t, ht⟩ | ⟨k, hk, ht⟩
  · obtain ⟨hp, htl⟩ := func_made ht
    have hv := parts_valid hp
    have HT := hid ht; have HP := hid hp; have HV := hid hv
    clear ht hp hv
    have hts : (bsB t).size ≤ 140737488351232 := by rw [bs_size]; omega
    go_enter Try.func14, Try.ntmps14
    go_wp2_with (at_builtin; go_must (refine app_src (base := w.heap.size) elStr rfl (.const (.slice none 0 0)) (.tmp 15) rfl (OwnS.nil _ _) rfl (a0.map Value.string) A n c rfl (by rw [List.length_map, HN.out, Nat.mul_one]) (fun h => (RdS.src HR.out).2 h) (oneStr _) (by simp; unfold maxLen; omega) (by simp; omega) (Nat.le_refl _) ?_); intro v1 w1 ho hg hm hb)
    have HO : Hid (OwnS w1 w.heap.size v1 a0) := hid (by unfold OwnS; rw [HN.out]; simpa using ho)
    have HB : Hid (Kp w w1) := hid hb
    clear ho hg hm hb
    have HNl : Hid (a0.length ≤ 140737488351232) := hid (by rw [HN.out]; omega)
    have HP2 : Hid (partsM (bsB t).data.toList = some (partsOf a0 ++ [a1.data.toList])) := hid (by rw [bs_data]; exact HP.out)
    have HV2 : Hid (validB (bsB t).data.toList = true) := hid (by rw [bs_data]; exact HV.out)
    obtain ⟨tb, htb⟩ : ∃ tb, bsB t = tb := ⟨_, rfl⟩
    have HTB := hid htb
    rw [htb] at hts HP2 HV2
    refine (HFU.out _ v1 a0 a1 (rd_own HO.out) HX.out hw1 HNl.out).mono ?_
    rintro e w2 ⟨rfl, k2⟩
    rw [HT.out]
    dsimp only
    rw [htb]
    clear htb
    go_wp2_with fail
    refine (HFU.out _ _ [⟨#[105, 110, 116]⟩] ⟨#[]⟩ (lit_strs _ _ _) (by intro x hx; rw [List.mem_singleton] at hx; subst hx; decide) (by decide) (by decide)).mono ?_
    rintro e w3 ⟨rfl, k3⟩
    rw [Q1.out]
    simp only [bsB]
    have K3 : Hid (Kp w w3) := hid (((HB.out.trans k2).alloc _).trans k3)
    clear k2 k3
    go_wp2_with fail
    refine ((params_any _ tb hts).mono fun _ _ h => h.yes HP2.out).mono ?_
    rintro e w4 ⟨v, rfl, hown, k4, _⟩
    rw [parts_strs] at hown
    obtain ⟨A4, c4, rfl⟩ := own_form hown
    have HO4 := hid hown
    have hlen := HN.out
    rw [hlen] at HO4 ⊢
    clear hown hlen
    go_wp2_with fail
    refine ((result_any _ tb hts).mono fun _ _ h => h.yes HP2.out).mono ?_
    rintro e w5 ⟨rfl, k5⟩
    rw [bs_self]
    have bx : (a1.toList != a1.toList) = false := by simp
    go_wp2_with fail
    refine (valid_any _ tb hts).mono ?_
    rintro e w6 ⟨rfl, k6⟩
    rw [HV2.out]
    have RP : Hid (RdS w6 (.slice A4 n c4) a0) := hid (((rd_own HO4.out).kp k5).kp k6)
    have K6 : Hid (Kp w w6) := hid (((K3.out.trans k4).trans k5).trans k6)
    clear k4 k5 k6
    go_wp2_with fail
    go_loopw [13] (fun i wr => ∃ k : Nat, k ≤ n ∧ i = .int .i64 k ∧ Kp w6 wr) (fun i _ => n - (intOf i).toNat)
    case atStart => exact ⟨0, by omega, rfl, Kp.refl _⟩
    case round =>
      obtain ⟨k, hk, rfl, hkp⟩ := hrel
      by_cases hlt : k < n
      · have hlt2 : k < a0.length := by rw [HN.out]; exact hlt
        obtain ⟨x, hx⟩ : ∃ x, a0[k]? = some x := ⟨a0[k], List.getElem?_eq_getElem hlt2⟩
        obtain ⟨b1, o1, rfl, hb1, q1⟩ := rds_at (RP.out.kp hkp) hx
        obtain ⟨b2, o2, rfl, hb2, q2⟩ := rds_at ((HR.out.kp K6.out).kp hkp) hx
        have j1 : (k : Int) < (n : Int) := by omega
        have j0 : (0 : Int) ≤ (k : Int) := by omega
        have bx2 : (x.toList != x.toList) = false := by simp
        have HKP := hid hkp
        clear hx hkp hlt2
        go_wp2
        go_quiet (fail)
        go_wp2
        go_roundw
        case rel => exact ⟨k + 1, by omega, by simp, HKP.out.drewN _⟩
        case measure => simp [intOf]; omega
      · have j1 : ¬ ((k : Int) < (n : Int)) := by omega
        have HKP := hid (K6.out.trans hkp)
        clear hkp
        go_wp2
        go_ret
        exact ⟨rfl, HKP.out⟩
  · have HT := hid ht
    have hne : (k != 0) = true := by simp [hk]
    have hne2 : (k == 0) = false := by simp [hk]
    clear ht hk
    have HNl : Hid (a0.length ≤ 140737488351232) := hid (by rw [HN.out]; omega)
    go_enter Try.func14, Try.ntmps14
    go_wp2_with (at_builtin; go_must (refine app_src (base := w.heap.size) elStr rfl (.const (.slice none 0 0)) (.tmp 15) rfl (OwnS.nil _ _) rfl (a0.map Value.string) A n c rfl (by rw [List.length_map, HN.out, Nat.mul_one]) (fun h => (RdS.src HR.out).2 h) (oneStr _) (by simp; unfold maxLen; omega) (by simp; omega) (Nat.le_refl _) ?_); intro v1 w1 ho hg hm hb)
    have HO : Hid (OwnS w1 w.heap.size v1 a0) := hid (by unfold OwnS; rw [HN.out]; simpa using ho)
    have HB : Hid (Kp w w1) := hid hb
    clear ho hg hm hb
    refine (HFU.out _ v1 a0 a1 (rd_own HO.out) HX.out hw1 HNl.out).mono ?_
    rintro e w2 ⟨rfl, k2⟩
    rw [HT.out]
    simp only [bsB]
    go_wp2_with fail
    refine (HFU.out _ _ [⟨#[105, 110, 116]⟩] ⟨#[]⟩ (lit_strs _ _ _) (by intro x hx; rw [List.mem_singleton] at hx; subst hx; decide) (by decide) (by decide)).mono ?_
    rintro e w3 ⟨rfl, k3⟩
    rw [Q1.out]
    simp only [bsB]
    have K3 : Hid (Kp w w3) := hid (((HB.out.trans k2).alloc _).trans k3)
    clear k2 k3
    go_wp2_with fail
    go_ret
    exact ⟨rfl, K3.out⟩

/-! ### The row's step (the guide's frame, written by program) -/
set_option maxRecDepth 100000 in
theorem lifted (os : Os) (started : os.Started) (H : Type) (enc : TypeId × Value → H) :
    ReturnsInHanded {} Try.checked os 14 .any (Rows.typesMadeSpec.pre6 enc Try.prog Try.f14 Rows.typesMadeRow.domain false) (Rows.typesMadeSpec.post enc Try.prog Try.f14 false true false false) := by
  refine returnsInHanded_of_change_sized (C := Try.checked) own started (by kernel_rfl) Try.func14
    (ChangeSpec.witness6 (enc := enc) (C := Try.checked) false ⟨#[], #[.slice none 0 0, .string ⟨#[]⟩], []⟩ 8 (by kernel_rfl) (by kernel_rfl) (by kernel_rfl) (by kernel_rfl)) ?_
  intro W base args ds gs before hval0 hW _ hsz0 _
  have hsz : (DataW.weightsEach Try.prog (Try.f14.params.toList ++ Rows.typesMadeSpec.plain.varTypes Try.prog) (ds ++ gs)).all (· ≤ reachBytes) = true := hsz0
  clear hsz0
  have hval : ∀ (j : Nat) t v, Try.f14.params[j]? = some t → args[j]? = some v → Value.okWide Try.prog W .any base t v := hval0
  have hW' := hW
  obtain ⟨p, q, hA0, hV, rfl, hfz, hnd⟩ := hW
  have hA : DataW.TrodAll enc Try.prog W 0 (fun _ => true) true Try.f14.params.toList args.toList ds p := hA0
  rw [Try.params14] at hA hval hsz
  obtain ⟨v0, vs0, d0, ds0, p0, q0, hargs, rfl, rfl, h0, r0⟩ := trodAll_cons hA
  obtain ⟨v1, vs1, d1, ds1, p1, q1, rfl, rfl, rfl, h1, r1⟩ := trodAll_cons r0
  obtain ⟨rfl, rfl, rfl⟩ := trodAll_nil r1
  obtain rfl : args = #[v0, v1] := by cases args; simp_all
  obtain ⟨rfl, rfl⟩ := trodVars_none hV
  have k0 := h0
  have lt0 : ∀ x ∈ p0, x.block < W.heap.size := by obtain ⟨m, hm⟩ := k0; exact DataW.trod_lt m _ _ _ hm
  have hz0 : ∀ n ∈ DataW.weights Try.prog 56 d0, n ≤ reachBytes := fun n hn => by
    have := List.all_eq_true.1 hsz _ (DataW.weights_mem_each (j := 0) rfl rfl n hn)
    simpa using this
  obtain ⟨a0, w0⟩ := open_strs (hval 0 56 v0 rfl rfl) h0 hz0
  have k1 := h1
  have lt1 : ∀ x ∈ p1, x.block < W.heap.size := by obtain ⟨m, hm⟩ := k1; exact DataW.trod_lt m _ _ _ hm
  have hz1 : ∀ n ∈ DataW.weights Try.prog 9 d1, n ≤ reachBytes := fun n hn => by
    have := List.all_eq_true.1 hsz _ (DataW.weights_mem_each (j := 1) rfl rfl n hn)
    simpa using this
  obtain ⟨a1, rfl, rfl, rfl, ws1⟩ := open_string Try.underlying9 (hval 1 9 v1 rfl rfl) h1
  have w1 : a1.size ≤ 140737488351232 := by
    have h := hz1 a1.data.toList.length (by simp [DataW.weights])
    rw [Array.length_toList] at h; exact h
  clear hA0 hval0
  simp only [List.append_nil] at hW'
  refine (walk v0 a0 a1 W w0 w1).mono fun e W' ⟨he, bel⟩ => ?_
  subst he
  exact ⟨_, rfl, _, _, _, [], _, [], hW', trodAll_mk1 (shut_bool Try.underlying4 _), (trodAll_cons_mk (Below.trod laidOut (by kernel_rfl) (of_decide_eq_true (by kernel_rfl)) k0 bel lt0) (trodAll_cons_mk (Below.trod laidOut (by kernel_rfl) (of_decide_eq_true (by kernel_rfl)) k1 bel lt1) trodAll_mk0)), rfl, Below.frame bel _, fun h => by cases h⟩

theorem over : Rows.typesMadeRow.holds Try.pinned (OpenSpec.ofChange Rows.typesMadeSpec) :=
  OpenClaim.holds_of_wide 14 Try.f14 rfl rfl rfl rfl rfl rfl rfl ⟨rfl, rfl, rfl, rfl, rfl⟩ rfl rfl rfl rfl rfl (by kernel_rfl) Try.func14 (by kernel_rfl)
    (of_decide_eq_true (by kernel_rfl)) (by unfold Func.isWrapper; rw [if_neg (of_decide_eq_false (by kernel_rfl))]; exact ⟨rfl, rfl⟩)
    (fun os started H enc _ => lifted os started H enc)

/-- THE STATEMENT. -/
theorem proved : Rows.TypesMadeSaid := over
#print axioms proved

end Go.Proofs.Ytmcidhjcimjeiaa.typesMade
