/-
  The law PanicsCrash answers true for all lists of events. No condition.
-/
import Derived.SizedLaws
import Derived.Deep.CondSized
import Derived.Test.YtfholconiofgoaaRows
import Derived.Test.YtfholconiofgoaaPanL
import Derived.Test.YtfholconiofgoaaPanN
namespace Go.Proofs.Ytfholconiofgoaa.panicsCrash
open Go.ChangeShapes Go.WideShapes Go.ChangeAt Go.RowKit
open Go.ChangeMaps (open_string shut_string)
set_option linter.unusedVariables false

theorem own : ownKnob Try.prog.godebug = none := by kernel_rfl
theorem laidOut : laidOutB Try.prog = true := by kernel_rfl


set_option maxRecDepth 20000 in
set_option maxHeartbeats 8000000 in
theorem walk (v0 : Value) (a0 : List EventM) (w : World) (w0 : RdEventsB w v0 a0) :
    Calls Try.prog 7 #[v0] w fun e w' => e = .returned (.bool true) ∧ Kp w w' := by
  have HL := hid (show RdL CeEvent 6 w v0 a0 from w0.1)
  obtain ⟨A, c, rfl, hlc⟩ := w0.1.form
  clear w0
  go_enter Try.func7, Try.ntmps7
  go_wp2_with fail
  refine (events_any _ a0 _ HL.out).mono ?_
  rintro e w1 ⟨⟨v1, rfl, h1⟩, hk1⟩
  go_wp2_with fail
  refine (played_any _ (eventsM a0) _ h1.rd (eventsM_ok _) (eventsM_len _)).mono ?_
  rintro e w2 ⟨⟨vs, va, rfl, h2, h3⟩, hk2⟩
  have HG := hid (all_good (eventsM_len a0))
  have HLL := hid (states_le (eventsM_len a0))
  have HN := hid (show 0 < (st0 :: statesM st0 (eventsM a0)).length by simp)
  have HQ := hid (fun R (hR : (st0 :: statesM st0 (eventsM a0))[(st0 :: statesM st0 (eventsM a0)).length - 1]? = some R) => all_crash (eventsM a0) st0 (.inl st0_runs) rfl (by show (0 : Int) ≠ 2; decide) R hR)
  have HTC := hid (all_tlen (eventsM a0) st0 0 st0_gr rfl)
  have HTL := hid (Nat.le_trans (all_le (eventsM a0) st0) (eventsM_len a0))
  generalize st0 :: statesM st0 (eventsM a0) = L at HG HLL HN HQ h2
  generalize allM st0 (eventsM a0) = T at HQ HTL HTC h3
  obtain ⟨As, cs, rfl, hLc⟩ := h2.rd.form
  obtain ⟨At, ct, rfl, hTc⟩ := h3.rd.form
  have HS := hid h2; have HTS := hid h3; have HK := hid (hk1.trans hk2)
  obtain ⟨n1, hn1⟩ : ∃ n1, L.length = n1 + 1 := ⟨L.length - 1, by have := HN.out; omega⟩
  obtain ⟨S, hS⟩ : ∃ S, L[n1]? = some S := ⟨_, List.getElem?_eq_getElem (by omega)⟩
  have HQS := hid (HQ.out S (by rw [hn1]; exact hS))
  obtain ⟨hG, _, hgr⟩ := HG.out S (List.mem_of_getElem? hS)
  have HGS := hid hG; have HGR := hid hgr
  obtain ⟨b, off, rfl, hb, fv, pv, q0, q1, q2, q3, q4, q5, hso⟩ := at_sts HS.out hS
  have HSO := hid hso
  obtain ⟨A1, cF, B1, cP, rfl, rfl⟩ := hso.form
  have i1 : (n1 : Int) < (L.length : Int) := by omega
  have i3 : (1 : Int) ≤ (L.length : Int) := by omega
  have i2 : IntKind.i64.wrap ((L.length : Int) - 1) = (n1 : Int) := by rw [IntKind.wrap_i64]; have := HLL.out; omega
  clear h1 h2 h3 hk1 hk2 hn1 hS hso hG hgr hLc hTc HQ HG HN
  go_wp2
  have HB := hid (show StBox (w2.alloc (Obj.cells #[.slice A1 S.fr.length cF, .slice B1 S.pn.length cP, .int .i64 S.next, .int .i64 S.ser, .int .i64 S.en, .int .i64 S.stat] 36)) w2.heap.size (.slice A1 S.fr.length cF) (.slice B1 S.pn.length cP) (numS S) from blk_new _ _)
  have HKA := hid (show Kp w2 (w2.alloc (Obj.cells #[.slice A1 S.fr.length cF, .slice B1 S.pn.length cP, .int .i64 S.next, .int .i64 S.ser, .int .i64 S.en, .int .i64 S.stat] 36)) from (Kp.refl _).alloc _)
  clear q0 q1 q2 q3 q4 q5 i1 i2 i3
  obtain ⟨bs, hbs⟩ : ∃ bs, w2.heap.size = bs := ⟨_, rfl⟩
  rw [hbs] at HB ⊢
  clear hbs
  generalize w2.alloc (Obj.cells #[.slice A1 S.fr.length cF, .slice B1 S.pn.length cP, .int .i64 S.next, .int .i64 S.ser, .int .i64 S.en, .int .i64 S.stat] 36) = W at HB HKA ⊢
  go_loopw [7, 8] (fun p i wr => ∃ k : Nat, k ≤ T.length ∧ p = .bool ((T.take k).any (·.any isP)) ∧ i = .int .i64 (k : Int) ∧ Kp W wr) (fun _ i _ => T.length - (intOf i).toNat)
  case atStart => exact ⟨0, by omega, rfl, rfl, Kp.refl _⟩
  case round =>
    obtain ⟨k, hk, rfl, rfl, hkp⟩ := hrel
    have HKR := hid hkp
    by_cases hlt : k < T.length
    · have i1 : (k : Int) < (T.length : Int) := by omega
      have HWK := hid (wrap_up (n := k) (by have := HTL.out; omega))
      obtain ⟨Tk, hTk⟩ : ∃ Tk, T[k]? = some Tk := ⟨_, List.getElem?_eq_getElem hlt⟩
      have HTK := hid (take_any hTk (·.any isP))
      obtain ⟨b2, off2, rfl, hb2, tv, c0, htd⟩ := at_tds (HTS.out.kp (HKA.out.trans hkp)) hTk
      obtain ⟨A4, c4, rfl, _⟩ := htd.len
      have HTD := hid htd
      have HTB := hid (HTC.out Tk (List.mem_of_getElem? hTk))
      generalize (T.take k).any (·.any isP) = pb at HTK ⊢
      clear htd hTk hk hkp
      go_wp2
      go_loopw [7, 38] (fun p j wq => ∃ m : Nat, m ≤ Tk.length ∧ p = .bool (pb || (Tk.take m).any isP) ∧ j = .int .i64 (m : Int) ∧ Kp wr wq) (fun _ j _ => Tk.length - (intOf j).toNat)
      case atStart => exact ⟨0, by omega, by simp, rfl, Kp.refl _⟩
      case round =>
        obtain ⟨m, hm, rfl, rfl, hkq⟩ := hrel
        have HKQ := hid hkq
        by_cases hlm : m < Tk.length
        · have i2 : (m : Int) < (Tk.length : Int) := by omega
          have HWM := hid (wrap_up (n := m) (by have := HTB.out; omega))
          obtain ⟨t, ht⟩ : ∃ t, Tk[m]? = some t := ⟨_, List.getElem?_eq_getElem hlm⟩
          have HTM := hid (take_any ht isP)
          obtain ⟨b3, off3, rfl, hb3, A5, c5, z0, z1, z2, z3, z4, z5, z6, _⟩ := at_td (HTD.out.kp hkq) ht
          generalize hX : (pb || (Tk.take m).any isP) = X
          have HX := hid hX
          clear ht hkq hm hX
          cases X
          · by_cases e4 : t.kind = 4
            · by_cases e0 : t.n = 0
              · have t4 : (t.kind == 4) = true := by simp [e4]
                have t0 : (t.n == 0) = true := by simp [e0]
                have HF := hid (show isP t = true by unfold isP; simp [e4, e0])
                clear e4 e0
                go_wp2
                exact round_upB (B := fun m => pb || (Tk.take m).any isP) (by rw [HTM.out, ← Bool.or_assoc, HX.out, HF.out]; rfl) HWM.out hlm (HKQ.out.trans ((Kp.refl _).alloc _))
              · have t4 : (t.kind == 4) = true := by simp [e4]
                have t0 : (t.n == 0) = false := by simp [e0]
                have HF := hid (show isP t = false by unfold isP; simp [e0])
                clear e4 e0
                go_wp2
                exact round_upB (B := fun m => pb || (Tk.take m).any isP) (by rw [HTM.out, ← Bool.or_assoc, HX.out, HF.out]; rfl) HWM.out hlm (HKQ.out.trans ((Kp.refl _).alloc _))
            · have t4 : (t.kind == 4) = false := by simp [e4]
              have HF := hid (show isP t = false by unfold isP; simp [e4])
              clear e4
              go_wp2
              exact round_upB (B := fun m => pb || (Tk.take m).any isP) (by rw [HTM.out, ← Bool.or_assoc, HX.out, HF.out]; rfl) HWM.out hlm (HKQ.out.trans ((Kp.refl _).alloc _))
          · go_wp2
            exact round_upB (B := fun m => pb || (Tk.take m).any isP) (by rw [HTM.out, ← Bool.or_assoc, HX.out]; rfl) HWM.out hlm (HKQ.out.trans ((Kp.refl _).alloc _))
        · have i2 : ¬ (m : Int) < (Tk.length : Int) := by omega
          have HM := hid (show (Tk.take m) = Tk from List.take_of_length_le (by omega))
          clear hkq hm
          go_wp2
          exact round_upB (B := fun k => (T.take k).any (·.any isP)) (by rw [HTK.out, HM.out]) HWK.out hlt (HKR.out.trans HKQ.out)
    · have i1 : ¬ (k : Int) < (T.length : Int) := by omega
      have ha : (T.take k).any (·.any isP) = decide (S.en = 2) := by rw [List.take_of_length_le (by omega)]; exact HQS.out
      rw [ha]
      obtain ⟨y0, y1, y2, y3, y4, y5, _⟩ := (HB.out.kp hkp).cells
      dsimp only [numS] at y0 y1 y2 y3 y4 y5
      by_cases he : S.en = 2
      · have t0 : (S.en != 2) = false := by simp [he]
        rw [decide_eq_true he]
        obtain ⟨hfr, hst, q, r, hpn, hrc, hab⟩ := (HGS.out.over (by rw [he]; decide)).crash he
        have hn : S.pn.length = r.length + 1 := by rw [hpn]; rfl
        have hq : S.pn.reverse[r.length]? = some q := by rw [hpn]; simp
        obtain ⟨pb, po, rfl, hpb, A2, c2, z0, z1, z2, z3, z4, z5, z6, _⟩ := at_pn ((HSO.out.kp (HKA.out.trans hkp)).2.1) hq
        rw [hrc] at z5
        rw [hab] at z6
        have v1 : IntKind.i64.wrap ((S.pn.length : Int) - 1) = (r.length : Int) := by rw [IntKind.wrap_i64]; have := HGR.out.pl; omega
        have i3 : (r.length : Int) < (S.pn.length : Int) := by omega
        have t6 : decide ((0 : Int) ≤ (r.length : Int)) = true := decide_eq_true (by omega)
        have t7 : (S.stat == 2) = true := by simp [hst]
        have t8 : ((S.fr.length : Int) == 0) = true := by rw [hfr]; rfl
        clear he hn hq hk hkp ha z0 z1 z2 z3 z4 hfr hst hpn hrc hab y2 y3
        go_wp2
        exact bodyPost_ret (v := .bool true) (by simp [results, Try.results7, go_sem]) rfl ⟨rfl, HK.out.trans (HKA.out.trans HKR.out)⟩
      · have t0 : (S.en != 2) = true := by simp [he]
        rw [decide_eq_false he]
        clear he hk hkp ha y0 y1 y2 y3 y5
        go_wp2
        exact bodyPost_ret (v := .bool true) (by simp [results, Try.results7, go_sem]) rfl ⟨rfl, HK.out.trans (HKA.out.trans HKR.out)⟩
/-! ### The row's step (the guide's frame, written by program) -/
set_option maxRecDepth 100000 in
theorem lifted (os : Os) (started : os.Started) (H : Type) (enc : TypeId × Value → H) :
    ReturnsInHanded {} Try.checked os 7 .any (Rows.panicsCrashSpec.pre6 enc Try.prog Try.f7 Rows.panicsCrashRow.domain false) (Rows.panicsCrashSpec.post enc Try.prog Try.f7 false true false false) := by
  refine returnsInHanded_of_change_sized (C := Try.checked) own started (by kernel_rfl) Try.func7
    (ChangeSpec.witness6 (enc := enc) (C := Try.checked) false ⟨#[], #[.slice none 0 0], []⟩ 8 (by kernel_rfl) (by kernel_rfl) (by kernel_rfl) (by kernel_rfl)) ?_
  intro W base args ds gs before hval0 hW _ hsz0 _
  have hsz : (DataW.weightsEach Try.prog (Try.f7.params.toList ++ Rows.panicsCrashSpec.plain.varTypes Try.prog) (ds ++ gs)).all (· ≤ reachBytes) = true := hsz0
  clear hsz0
  have hval : ∀ (j : Nat) t v, Try.f7.params[j]? = some t → args[j]? = some v → Value.okWide Try.prog W .any base t v := hval0
  have hW' := hW
  obtain ⟨p, q, hA0, hV, rfl, hfz, hnd⟩ := hW
  have hA : DataW.TrodAll enc Try.prog W 0 (fun _ => true) true Try.f7.params.toList args.toList ds p := hA0
  rw [Try.params7] at hA hval hsz
  obtain ⟨v0, vs0, d0, ds0, p0, q0, hargs, rfl, rfl, h0, r0⟩ := trodAll_cons hA
  obtain ⟨rfl, rfl, rfl⟩ := trodAll_nil r0
  obtain rfl : args = #[v0] := by cases args; simp_all
  obtain ⟨rfl, rfl⟩ := trodVars_none hV
  have k0 := h0
  have lt0 : ∀ x ∈ p0, x.block < W.heap.size := by obtain ⟨m, hm⟩ := k0; exact DataW.trod_lt m _ _ _ hm
  have hz0 : ∀ n ∈ DataW.weights Try.prog 22 d0, n ≤ reachBytes := fun n hn => by
    have := List.all_eq_true.1 hsz _ (DataW.weights_mem_each (j := 0) rfl rfl n hn)
    simpa using this
  obtain ⟨a0, w0⟩ := open_events (hval 0 22 v0 rfl rfl) h0 hz0
  clear hA0 hval0
  simp only [List.append_nil] at hW'
  refine (walk v0 a0 W w0).mono fun e W' ⟨he, bel⟩ => ?_
  subst he
  exact ⟨_, rfl, _, _, _, [], _, [], hW', trodAll_mk1 (shut_bool Try.underlying4 _), (trodAll_cons_mk (Below.trod laidOut (by kernel_rfl) (of_decide_eq_true (by kernel_rfl)) k0 bel lt0) trodAll_mk0), rfl, Below.frame bel _, fun h => by cases h⟩

theorem over : Rows.panicsCrashRow.holds Try.pinned (OpenSpec.ofChange Rows.panicsCrashSpec) :=
  OpenClaim.holds_of_wide 7 Try.f7 rfl rfl rfl rfl rfl rfl rfl ⟨rfl, rfl, rfl, rfl, rfl⟩ rfl rfl rfl rfl rfl (by kernel_rfl) Try.func7 (by kernel_rfl)
    (of_decide_eq_true (by kernel_rfl)) (by unfold Func.isWrapper; rw [if_neg (of_decide_eq_false (by kernel_rfl))]; exact ⟨rfl, rfl⟩)
    (fun os started H enc _ => lifted os started H enc)

/-- THE STATEMENT. -/
theorem proved : Rows.PanicsCrashSaid := over
#print axioms proved

end Go.Proofs.Ytfholconiofgoaa.panicsCrash
