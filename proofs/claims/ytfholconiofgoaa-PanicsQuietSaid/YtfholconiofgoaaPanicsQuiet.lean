/-
  The law PanicsQuiet answers true for all lists of events. No condition.
-/
import Derived.SizedLaws
import Derived.Deep.CondSized
import Derived.Test.YtfholconiofgoaaRows
import Derived.Test.YtfholconiofgoaaPanL
import Derived.Test.YtfholconiofgoaaPanN
namespace Go.Proofs.Ytfholconiofgoaa.panicsQuiet
open Go.ChangeShapes Go.WideShapes Go.ChangeAt Go.RowKit
open Go.ChangeMaps (open_string shut_string)
set_option linter.unusedVariables false

theorem own : ownKnob Try.prog.godebug = none := by kernel_rfl
theorem laidOut : laidOutB Try.prog = true := by kernel_rfl


def qt (e : EventM) : EventM := if e.kind = 4 then { e with kind := 2 } else e
theorem qt_ok {e : EventM} (h : okEv e) : okEv (qt e) ∧ (qt e).kind ≠ 4 := by
  unfold qt
  by_cases h4 : e.kind = 4
  · rw [if_pos h4]
    exact ⟨⟨.inr (.inl rfl), fun h => absurd h (by show ¬ (2 : Int) = 4; decide)⟩, by show ¬ (2 : Int) = 4; decide⟩
  · rw [if_neg h4]; exact ⟨h, h4⟩
def mq (M : List EventM) (k : Nat) : List EventM := (M.take k).map qt ++ M.drop k
theorem mq_len {M : List EventM} {k : Nat} : (mq M k).length = M.length := by
  unfold mq; rw [List.length_append, List.length_map, List.length_take, List.length_drop]; omega
theorem mq_at {M : List EventM} {k : Nat} (h : k < M.length) : (mq M k)[k]? = M[k]? := by
  unfold mq
  have e : ((M.take k).map qt).length = k := by rw [List.length_map, List.length_take]; omega
  rw [List.getElem?_append_right (by omega), e, Nat.sub_self, List.getElem?_drop, Nat.add_zero]
theorem mq_step {M : List EventM} {k : Nat} {e : EventM} (h : M[k]? = some e) : (mq M k).set k (qt e) = mq M (k + 1) := by
  have hk := (List.getElem?_eq_some_iff.1 h).1
  have he := (List.getElem?_eq_some_iff.1 h).2
  have e1 : ((M.take k).map qt).length = k := by rw [List.length_map, List.length_take]; omega
  unfold mq
  rw [List.set_append_right _ _ (by omega), e1, Nat.sub_self, List.drop_eq_getElem_cons hk, List.set_cons_zero, List.take_succ_eq_append_getElem hk, List.map_append, he]
  simp
theorem set_same {α : Type} {l : List α} {i : Nat} {a : α} (h : l[i]? = some a) : l.set i a = l := by
  apply List.ext_getElem?
  intro k
  by_cases hk : i = k
  · subst hk; rw [List.getElem?_set_self (List.getElem?_eq_some_iff.1 h).1, h]
  · rw [List.getElem?_set_ne hk]
theorem mq_same {M : List EventM} {k : Nat} {e : EventM} (h : M[k]? = some e) (h4 : e.kind ≠ 4) : mq M k = mq M (k + 1) := by
  have e1 : qt e = e := by unfold qt; rw [if_neg h4]
  have hk := (List.getElem?_eq_some_iff.1 h).1
  rw [← mq_step h, e1]
  have h2 := (mq_at hk).trans h
  exact (set_same h2).symm
theorem evs_at {w : World} {base g n c k : Nat} {M : List EventM} {m : EventM} (h : OEvs w base (.slice (some ⟨g, 0, none⟩) n c) M) (hm : M[k]? = some m) : w.cell? ⟨g, k * 6, none⟩ = some (.int .i64 m.kind) ∧ w.frozen? ⟨g, k * 6, none⟩ = false ∧ base ≤ g ∧ g < w.heap.size := by
  have hk := (List.getElem?_eq_some_iff.1 hm).1
  obtain ⟨xs, h1, h2⟩ := h
  have hn : n = M.length := by
    rcases h1.2 with ⟨e, _⟩ | ⟨_, _, _, e, _⟩ <;> cases e; rfl
  subst hn
  obtain ⟨cs, ⟨la, rfl, _, hok⟩, _, h4⟩ := h2.get hm
  obtain ⟨g1, g2⟩ := rowAt h1 (show k * 6 < M.length * 6 by omega)
  exact ⟨g1.trans (by have := h4 0 (by omega); simpa using this), g2, rowGe h1⟩
theorem evs_put {w : World} {base g n c k : Nat} {M : List EventM} {m : EventM} (h : OEvs w base (.slice (some ⟨g, 0, none⟩) n c) M) (hm : M[k]? = some m) : OEvs (w.setCell ⟨g, k * 6, none⟩ (.int .i64 2)) base (.slice (some ⟨g, 0, none⟩) n c) (M.set k { m with kind := 2 }) := by
  have hk := (List.getElem?_eq_some_iff.1 hm).1
  obtain ⟨xs, h1, h2⟩ := h
  have hn : n = M.length := by
    rcases h1.2 with ⟨e, _⟩ | ⟨_, _, _, e, _⟩ <;> cases e; rfl
  subst hn
  obtain ⟨cs, fr, hb⟩ := rowBlk h1
  have ht := rowTouch (o := k * 6) hb (.int .i64 2)
  have h3 := rowSet h1 (show k * 6 < M.length * 6 by omega) (.int .i64 2)
  refine ⟨xs.set (k * 6) (.int .i64 2), by rw [List.length_set]; exact h3, ?_⟩
  have h4 : Chunk (CeEvO base) 6 (w.setCell ⟨g, k * 6, none⟩ (.int .i64 2)) xs M := h2.mono (fun cs a ⟨la, g1, g2, g3⟩ => ⟨la, g1, ownsRow_touch (by decide) g2 ht, g3⟩)
  refine Chunk.set 0 (by omega) _ h4 hm (fun cs ha hl => ?_)
  obtain ⟨la, rfl, h5, h6, h7⟩ := ha
  exact ⟨la, rfl, h5, by show okI 2; unfold okI; omega, h7⟩
theorem qround {w u : World} {n k k1 : Nat} {v : Value} {M : List EventM} (h1 : k1 = k + 1) (hlt : k < n) (hO : OEvs u w.heap.size v (mq M (k + 1))) (hk : Kp w u) :
    (∃ k' : Nat, k' ≤ n ∧ Value.int .i64 (k1 : Int) = .int .i64 (k' : Int) ∧ OEvs u w.heap.size v (mq M k') ∧ Kp w u) ∧ n - (intOf (.int .i64 (k1 : Int))).toNat < n - (intOf (.int .i64 (k : Int))).toNat := by
  subst h1
  exact ⟨⟨k + 1, hlt, rfl, hO, hk⟩, by simp only [intOf, Int.toNat_natCast]; omega⟩
set_option maxRecDepth 20000 in
set_option maxHeartbeats 8000000 in
theorem walk (v0 : Value) (a0 : List EventM) (w : World) (w0 : RdEventsB w v0 a0) :
    Calls Try.prog 5 #[v0] w fun e w' => e = .returned (.bool true) ∧ Kp w w' := by
  have HL := hid (show RdL CeEvent 6 w v0 a0 from w0.1)
  obtain ⟨A, c, rfl, hlc⟩ := w0.1.form
  clear w0
  go_enter Try.func5, Try.ntmps5
  go_wp2_with fail
  refine (events_any _ a0 _ HL.out).mono ?_
  rintro e w1 ⟨⟨v1, rfl, h1⟩, hk1⟩
  have HOK := hid (eventsM_ok a0)
  have HML := hid (eventsM_len a0)
  generalize eventsM a0 = M at h1 HOK HML
  obtain ⟨A0, c0, rfl, hc0⟩ := h1.rd.form
  have H1 := hid h1; have HK1 := hid hk1
  clear h1 hk1 hc0 hlc HL
  go_wp2
  go_loopw [3] (fun i wr => ∃ k : Nat, k ≤ M.length ∧ i = .int .i64 (k : Int) ∧ OEvs wr w.heap.size (.slice A0 M.length c0) (mq M k) ∧ Kp w wr) (fun i _ => M.length - (intOf i).toNat)
  case atStart => exact ⟨0, by omega, rfl, by simpa [mq] using H1.out, HK1.out⟩
  case round =>
    obtain ⟨k, hk, rfl, hO, hkp⟩ := hrel
    have HKR := hid hkp
    by_cases hlt : k < M.length
    · have i1 : (k : Int) < (M.length : Int) := by omega
      obtain ⟨k1, hk1⟩ : ∃ k1, k1 = k + 1 := ⟨_, rfl⟩
      have wk : wrap64 ((k : Int) + 1) = (k1 : Int) := by rw [hk1]; exact wrap_up (by have := HML.out; omega)
      obtain ⟨e, he⟩ : ∃ e, M[k]? = some e := ⟨_, List.getElem?_eq_getElem hlt⟩
      have he2 := (mq_at hlt).trans he
      obtain ⟨xs, hx, _⟩ := id hO
      rw [mq_len] at hx
      obtain ⟨g, c9, e9, _⟩ := rowSome hx (by omega)
      cases e9
      obtain ⟨z0, z1, z2, z3⟩ := evs_at hO he2
      have HO := hid hO; have HE := hid he; have HE2 := hid he2
      have HH1 := hid hk1
      have HGE := hid z2
      clear hx he he2 hO hk1 hk hkp
      by_cases h4 : e.kind = 4
      · have t4 : (e.kind == 4) = true := by simp [h4]
        have HP := hid (show OEvs (wr.setCell ⟨g, k * 6, none⟩ (.int .i64 2)) w.heap.size (.slice (some ⟨g, 0, none⟩) M.length c0) (mq M (k + 1)) by
          have hp := evs_put HO.out HE2.out
          have eq : { e with kind := 2 } = qt e := by unfold qt; rw [if_pos h4]
          rw [eq, mq_step HE.out] at hp
          exact hp)
        have HKS := hid (HKR.out.setCell (p := ⟨g, k * 6, none⟩) HGE.out (.int .i64 2))
        clear h4
        go_wp2
        rw [wk]; exact qround HH1.out hlt HP.out HKS.out
      · have t4 : (e.kind == 4) = false := by simp [h4]
        have HP := hid (show OEvs wr w.heap.size (.slice (some ⟨g, 0, none⟩) M.length c0) (mq M (k + 1)) by rw [← mq_same HE.out h4]; exact HO.out)
        clear h4
        go_wp2
        rw [wk]; exact qround HH1.out hlt HP.out HKR.out
    · have i1 : ¬ (k : Int) < (M.length : Int) := by omega
      have hm : mq M k = M.map qt := by unfold mq; rw [List.take_of_length_le (by omega), List.drop_eq_nil_of_le (by omega), List.append_nil]
      rw [hm] at hO
      have HO := hid hO
      have HOQ := hid (show ∀ e ∈ M.map qt, okEv e ∧ e.kind ≠ 4 by
        intro x hx
        obtain ⟨y, hy, rfl⟩ := List.mem_map.1 hx
        exact qt_ok (HOK.out y hy))
      have HMQ := hid (show (M.map qt).length ≤ 400 by rw [List.length_map]; exact HML.out)
      clear hm hO hk hkp
      generalize M.map qt = N at HO HOQ HMQ
      go_wp2_with fail
      refine (played_any _ N _ HO.out.rd (fun e he => (HOQ.out e he).1) HMQ.out).mono ?_
      rintro e w2 ⟨⟨vs, va, rfl, h2, h3⟩, hk2⟩
      have HG := hid (states_quiet N st0 (fun e he => (HOQ.out e he).2) (.inl st0_runs) rfl rfl)
      have HLL := hid (states_len N st0)
      have HTC := hid (all_tlen N st0 0 st0_gr rfl)
      have HTL := hid (Nat.le_trans (all_le N st0) HMQ.out)
      generalize statesM st0 N = L at HG HLL h2
      generalize allM st0 N = T at HG HLL HTL HTC h3
      obtain ⟨As, cs, rfl, hLc⟩ := h2.rd.form
      obtain ⟨At, ct, rfl, hTc⟩ := h3.rd.form
      have HS := hid h2; have HTS := hid h3; have HK := hid (HKR.out.trans hk2)
      clear h2 h3 hk2 hLc hTc i1 HO HOQ HMQ
      go_wp2
      go_loopw [7] (fun i wq => ∃ k : Nat, k ≤ T.length ∧ i = .int .i64 (k : Int) ∧ Kp w2 wq) (fun i _ => T.length - (intOf i).toNat)
      case atStart => exact ⟨0, by omega, rfl, Kp.refl _⟩
      case round =>
        obtain ⟨j, hj, rfl, hkq⟩ := hrel
        have HKQ := hid hkq
        by_cases hlt : j < T.length
        · have i1 : (j : Int) < (T.length : Int) := by omega
          obtain ⟨j1, hj1⟩ : ∃ j1, j1 = j + 1 := ⟨_, rfl⟩
          have wk : wrap64 ((j : Int) + 1) = (j1 : Int) := by rw [hj1]; exact wrap_up (by have := HTL.out; omega)
          have HJ := hid hj1
          obtain ⟨Tk, hTk⟩ : ∃ Tk, T[j]? = some Tk := ⟨_, List.getElem?_eq_getElem hlt⟩
          have HTQ := hid (HG.out.2 Tk (List.mem_of_getElem? hTk))
          obtain ⟨b2, off2, rfl, hb2, tv, x0, htd⟩ := at_tds (HTS.out.kp hkq) hTk
          obtain ⟨A4, c4, rfl, _⟩ := htd.len
          have HTD := hid htd
          have HTB := hid (HTC.out Tk (List.mem_of_getElem? hTk))
          obtain ⟨R, hR⟩ : ∃ R, L[j]? = some R := ⟨_, List.getElem?_eq_getElem (by have := HLL.out; omega)⟩
          have hpn := HG.out.1 R (List.mem_of_getElem? hR)
          have hR1 : (st0 :: L)[j1]? = some R := by rw [hj1, List.getElem?_cons_succ]; exact hR
          obtain ⟨b, off, rfl, hb, fv, pv, q0, q1, q2, q3, q4, q5, hso⟩ := at_sts (HS.out.kp hkq) hR1
          obtain ⟨A1, cF, B1, cP, rfl, rfl⟩ := hso.form
          rw [hpn] at q1
          have Q1 := hid q1; have HBB := hid hb
          have i4 : (j1 : Int) < ((st0 :: L).length : Int) := by have := (List.getElem?_eq_some_iff.1 hR1).1; omega
          clear htd hTk hj hkq hj1 hR hpn hR1 hso q0 q1 q2 q3 q4 q5
          go_wp2
          go_loopw [47] (fun j wp => ∃ m : Nat, m ≤ Tk.length ∧ j = .int .i64 (m : Int) ∧ Kp wr wp) (fun j _ => Tk.length - (intOf j).toNat)
          case atStart => exact ⟨0, by omega, rfl, Kp.refl _⟩
          case round =>
            obtain ⟨m, hm, rfl, hkp⟩ := hrel
            have HKP := hid hkp
            by_cases hlm : m < Tk.length
            · have i2 : (m : Int) < (Tk.length : Int) := by omega
              have HWM := hid (wrap_up (n := m) (by have := HTB.out; omega))
              obtain ⟨t, ht⟩ : ∃ t, Tk[m]? = some t := ⟨_, List.getElem?_eq_getElem hlm⟩
              have htq : isQ t = false := by
                have h := HTQ.out
                rw [List.any_eq_false] at h
                simpa using h t (List.mem_of_getElem? ht)
              obtain ⟨b3, off3, rfl, hb3, A5, c5, z0, z1, z2, z3, z4, z5, z6, _⟩ := at_td (HTD.out.kp hkp) ht
              unfold isQ at htq
              simp only [Bool.or_eq_false_iff, Bool.and_eq_false_iff, decide_eq_false_iff_not] at htq
              obtain ⟨⟨k5, k4⟩, k7⟩ := htq
              have t5 : (t.kind == 5) = false := by simp [k5]
              have t4 : (t.kind == 4) = false := by simp [k4]
              clear ht hkp hm k5 k4 Q1
              by_cases h2 : t.n = 2
              · have t2 : (t.n == 2) = true := by simp [h2]
                have t7 : (t.kind == 7) = false := by simp; rcases k7 with h | h; exact absurd h2 h; exact h
                clear h2 k7
                go_wp2
                exact round_up HWM.out hlm (HKP.out.trans ((Kp.refl _).alloc _))
              · have t2 : (t.n == 2) = false := by simp [h2]
                clear h2 k7
                go_wp2
                exact round_up HWM.out hlm (HKP.out.trans ((Kp.refl _).alloc _))
            · have i2 : ¬ (m : Int) < (Tk.length : Int) := by omega
              have q1 := cell_kp hkp HBB.out Q1.out
              have hbb := Nat.lt_of_lt_of_le HBB.out hkp.le
              clear hkp hm
              go_wp2
              rw [wk]; exact round_up1 HJ.out hlt (HKQ.out.trans HKP.out)
        · have i1 : ¬ (j : Int) < (T.length : Int) := by omega
          clear hj hkq
          go_wp2
          exact bodyPost_ret (v := .bool true) (by simp [results, Try.results5, go_sem]) rfl ⟨rfl, HK.out.trans HKQ.out⟩
/-! ### The row's step (the guide's frame, written by program) -/
set_option maxRecDepth 100000 in
theorem lifted (os : Os) (started : os.Started) (H : Type) (enc : TypeId × Value → H) :
    ReturnsInHanded {} Try.checked os 5 .any (Rows.panicsQuietSpec.pre6 enc Try.prog Try.f5 Rows.panicsQuietRow.domain false) (Rows.panicsQuietSpec.post enc Try.prog Try.f5 false true false false) := by
  refine returnsInHanded_of_change_sized (C := Try.checked) own started (by kernel_rfl) Try.func5
    (ChangeSpec.witness6 (enc := enc) (C := Try.checked) false ⟨#[], #[.slice none 0 0], []⟩ 8 (by kernel_rfl) (by kernel_rfl) (by kernel_rfl) (by kernel_rfl)) ?_
  intro W base args ds gs before hval0 hW _ hsz0 _
  have hsz : (DataW.weightsEach Try.prog (Try.f5.params.toList ++ Rows.panicsQuietSpec.plain.varTypes Try.prog) (ds ++ gs)).all (· ≤ reachBytes) = true := hsz0
  clear hsz0
  have hval : ∀ (j : Nat) t v, Try.f5.params[j]? = some t → args[j]? = some v → Value.okWide Try.prog W .any base t v := hval0
  have hW' := hW
  obtain ⟨p, q, hA0, hV, rfl, hfz, hnd⟩ := hW
  have hA : DataW.TrodAll enc Try.prog W 0 (fun _ => true) true Try.f5.params.toList args.toList ds p := hA0
  rw [Try.params5] at hA hval hsz
  obtain ⟨v0, vs0, d0, ds0, p0, q0, hargs, rfl, rfl, h0, r0⟩ := trodAll_cons hA
  obtain ⟨rfl, rfl, rfl⟩ := trodAll_nil r0
  obtain rfl : args = #[v0] := by cases args; simp_all
  obtain ⟨rfl, rfl⟩ := trodVars_none hV
  have k0 := h0
  have lt0 : ∀ x ∈ p0, x.block < W.heap.size := by obtain ⟨m, hm⟩ := k0; exact DataW.trod_lt m _ _ _ hm
  have hz0 : ∀ n ∈ DataW.weights Try.prog 22 d0, n ≤ reachBytes := fun n hn => by
    have := List.all_eq_true.1 hsz _ (DataW.weights_mem_each (j := 0) rfl rfl n hn)
    simpa using this
  obtain ⟨a0, w0⟩ := open_events (hval 0 22 v0 rfl rfl) h0 hz0
  clear hA0 hval0
  simp only [List.append_nil] at hW'
  refine (walk v0 a0 W w0).mono fun e W' ⟨he, bel⟩ => ?_
  subst he
  exact ⟨_, rfl, _, _, _, [], _, [], hW', trodAll_mk1 (shut_bool Try.underlying4 _), (trodAll_cons_mk (Below.trod laidOut (by kernel_rfl) (of_decide_eq_true (by kernel_rfl)) k0 bel lt0) trodAll_mk0), rfl, Below.frame bel _, fun h => by cases h⟩

theorem over : Rows.panicsQuietRow.holds Try.pinned (OpenSpec.ofChange Rows.panicsQuietSpec) :=
  OpenClaim.holds_of_wide 5 Try.f5 rfl rfl rfl rfl rfl rfl rfl ⟨rfl, rfl, rfl, rfl, rfl⟩ rfl rfl rfl rfl rfl (by kernel_rfl) Try.func5 (by kernel_rfl)
    (of_decide_eq_true (by kernel_rfl)) (by unfold Func.isWrapper; rw [if_neg (of_decide_eq_false (by kernel_rfl))]; exact ⟨rfl, rfl⟩)
    (fun os started H enc _ => lifted os started H enc)

/-- THE STATEMENT. -/
theorem proved : Rows.PanicsQuietSaid := over
#print axioms proved

end Go.Proofs.Ytfholconiofgoaa.panicsQuiet
