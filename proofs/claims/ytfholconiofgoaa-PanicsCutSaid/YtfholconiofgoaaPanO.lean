/-
  panics.Play: a whole list of events, as the model has it. Condition: at most 400 events, each of which may happen.
-/
import Derived.Test.YtfholconiofgoaaPanK
import Derived.Test.YtfholconiofgoaaPanG
namespace Go.Proofs.Ytfholconiofgoaa
open Go.RowKit
set_option linter.unusedVariables false
set_option linter.unusedSimpArgs false

theorem playEnd {w u : World} {base pb br : Nat} {fv pv tv : Value} {fv0 pv0 : Value} {m0 : StateM} {R : PlM} (hp : Pl u base pb fv pv tv R) (hb : StBox u br fv0 pv0 m0) (hk : Kp w u) (hbr : w.heap.size ≤ br) :
    Pl ((((((u.setCell ⟨br, 0, none⟩ fv).setCell ⟨br, 1, none⟩ pv).setCell ⟨br, 2, none⟩ (.int .i64 R.next)).setCell ⟨br, 3, none⟩ (.int .i64 R.ser)).setCell ⟨br, 4, none⟩ (.int .i64 R.en)).setCell ⟨br, 5, none⟩ (.int .i64 R.stat)) base pb fv pv tv R ∧ StBox ((((((u.setCell ⟨br, 0, none⟩ fv).setCell ⟨br, 1, none⟩ pv).setCell ⟨br, 2, none⟩ (.int .i64 R.next)).setCell ⟨br, 3, none⟩ (.int .i64 R.ser)).setCell ⟨br, 4, none⟩ (.int .i64 R.en)).setCell ⟨br, 5, none⟩ (.int .i64 R.stat)) br fv pv (numS R) ∧ Kp w ((((((u.setCell ⟨br, 0, none⟩ fv).setCell ⟨br, 1, none⟩ pv).setCell ⟨br, 2, none⟩ (.int .i64 R.next)).setCell ⟨br, 3, none⟩ (.int .i64 R.ser)).setCell ⟨br, 4, none⟩ (.int .i64 R.en)).setCell ⟨br, 5, none⟩ (.int .i64 R.stat)) := by
  have ht : Touch 36 u ((((((u.setCell ⟨br, 0, none⟩ fv).setCell ⟨br, 1, none⟩ pv).setCell ⟨br, 2, none⟩ (.int .i64 R.next)).setCell ⟨br, 3, none⟩ (.int .i64 R.ser)).setCell ⟨br, 4, none⟩ (.int .i64 R.en)).setCell ⟨br, 5, none⟩ (.int .i64 R.stat)) :=
    (((((rowTouch hb _).trans (rowTouch (blk_set hb _) _)).trans (rowTouch (blk_set (blk_set hb _) _) _)).trans (rowTouch (blk_set (blk_set (blk_set hb _) _) _) _)).trans (rowTouch (blk_set (blk_set (blk_set (blk_set hb _) _) _) _) _)).trans (rowTouch (blk_set (blk_set (blk_set (blk_set (blk_set hb _) _) _) _) _) _)
  refine ⟨⟨hp.blkT ht (by decide), hp.ge, hp.fr.touch ht (by decide) (by decide), hp.pn.touch ht (by decide), hp.td.touch ht (by decide), hp.ok⟩, blk_set (blk_set (blk_set (blk_set (blk_set (blk_set hb _) _) _) _) _) _, ?_⟩
  exact (((((hk.setCell (p := ⟨br, 0, none⟩) hbr _).setCell (p := ⟨br, 1, none⟩) hbr _).setCell (p := ⟨br, 2, none⟩) hbr _).setCell (p := ⟨br, 3, none⟩) hbr _).setCell (p := ⟨br, 4, none⟩) hbr _).setCell (p := ⟨br, 5, none⟩) hbr _
theorem play_step {M : List EventM} {k : Nat} {e : EventM} (he : M[k]? = some e) (h0 : (playN st0 (M.take k)).en = 0) : playN st0 (M.take (k + 1)) = eventM (playN st0 (M.take k)) e := by
  obtain ⟨hk, rfl⟩ := List.getElem?_eq_some_iff.1 he
  rw [List.take_succ_eq_append_getElem hk, playN_snoc, if_pos h0]
theorem play_rest {M : List EventM} {k : Nat} (h0 : (playN st0 (M.take k)).en ≠ 0) : playN st0 M = playN st0 (M.take k) := by
  have h := playN_append (M.take k) (M.drop k) st0 h0
  rwa [List.take_append_drop] at h
theorem play_bd (M : List EventM) (k : Nat) (hl : M.length ≤ 400) : Bd (playN st0 (M.take k)) ∧ ((playN st0 (M.take k)).en = 0 → Runs (playN st0 (M.take k))) ∧ ∀ f ∈ (playN st0 (M.take k)).fr, f.defers.length ≤ 900000 := by
  obtain ⟨R, T, h, hG, hg, ht, hT, _, _⟩ := play_st (.inl st0_runs) st0_gr rfl (M.take k) (by rw [List.length_take]; omega)
  rw [h]
  refine ⟨⟨hg.fl, ?_, hg.n0, by have := hg.n1; show R.next ≤ _; omega, hg.s0, by have := hg.s1; show R.ser ≤ _; omega, by have := hg.pl; show R.pn.length ≤ _; omega⟩, fun he => (hG.runs he).addT T, fun f hf => by have := hg.df f hf; omega⟩
  show (T ++ R.told).length ≤ _
  rw [ht, List.append_nil]; omega
theorem play_round {w u : World} {pb n k : Nat} {A : Option Addr} {M : List EventM} {X : Int} (hw : X = ((k + 1 : Nat) : Int)) (hlt : k < n) (hP : Player u (w.heap.size + 1) pb (playN st0 (M.take (k + 1)))) (hB : StBox u w.heap.size (.slice none 0 0) (.slice none 0 0) zSt) (hk : Kp w u) :
    (∃ k' : Nat, k' ≤ n ∧ Value.int .i64 X = .int .i64 (k' : Int) ∧ Player u (w.heap.size + 1) pb (playN st0 (M.take k')) ∧ StBox u w.heap.size (.slice none 0 0) (.slice none 0 0) zSt ∧ Kp w u) ∧ n - (intOf (.int .i64 X)).toNat < n - (intOf (.int .i64 (k : Int))).toNat := by
  rw [hw]
  exact ⟨⟨k + 1, hlt, rfl, hP, hB, hk⟩, by simp only [intOf, Int.toNat_natCast]; omega⟩
set_option maxRecDepth 20000 in
set_option maxHeartbeats 8000000 in
theorem play_any (v : Value) (M : List EventM) (w : World) (h : RdL CeEvent 6 w v M) (hok : ∀ e ∈ M, okEv e) (hl : M.length ≤ 400) : Calls Try.prog 19 #[v] w (StepPost w (playN st0 M)) := by
  have HL := hid h; have HOK := hid hok
  obtain ⟨A, c, rfl, hc⟩ := h.form
  have i0 : ¬ (2000 : Int) < (M.length : Int) := by omega
  have HML := hid hl
  clear h hok hc hl
  have HB0 := hid (show StBox (w.alloc (Obj.cells #[.slice none 0 0, .slice none 0 0, .int .i64 0, .int .i64 0, .int .i64 0, .int .i64 0] 36)) w.heap.size (.slice none 0 0) (.slice none 0 0) zSt from blk_new _ _)
  have HZ := hid (show (w.alloc (Obj.cells #[.slice none 0 0, .slice none 0 0, .int .i64 0, .int .i64 0, .int .i64 0, .int .i64 0] 36)).heap.size = w.heap.size + 1 by simp)
  have HK0 := hid (show Kp w (w.alloc (Obj.cells #[.slice none 0 0, .slice none 0 0, .int .i64 0, .int .i64 0, .int .i64 0, .int .i64 0] 36)) from (Kp.refl w).alloc _)
  go_enter Try.func19, Try.ntmps19
  go_wp2_with fail
  generalize w.alloc (Obj.cells #[.slice none 0 0, .slice none 0 0, .int .i64 0, .int .i64 0, .int .i64 0, .int .i64 0] 36) = W0 at HB0 HZ HK0 ⊢
  refine (begin_st W0).mono ?_
  rintro e' w1 ⟨⟨fv, rfl, hst⟩, hk1⟩
  rw [HZ.out] at hst
  have hst' : StOwn w1 (w.heap.size + 1) fv (.slice none 0 0) st0 := hst
  obtain ⟨A2, c2, _, _, hfv, _⟩ := hst'.form
  have hfv2 : fv = .slice A2 1 c2 := hfv
  subst hfv2
  have hsz : w.heap.size + 1 ≤ w1.heap.size := by rw [← HZ.out]; exact hk1.le
  have HPP := hid (show Player (w1.alloc (Obj.cells #[.slice A2 1 c2, .slice none 0 0, .int .i64 1, .int .i64 0, .int .i64 0, .int .i64 0, .slice none 0 0] 66)) (w.heap.size + 1) w1.heap.size st0 from
    ⟨_, _, _, blk_new _ _, hsz, hst'.1.kp ((Kp.refl w1).alloc _), hst'.2.1.kp ((Kp.refl w1).alloc _), OwnL.nil _ _ _ _ _, hst'.2.2⟩)
  have HB1 := hid ((HB0.out.kp hk1).kp ((Kp.refl w1).alloc (Obj.cells #[.slice A2 1 c2, .slice none 0 0, .int .i64 1, .int .i64 0, .int .i64 0, .int .i64 0, .slice none 0 0] 66)))
  have HK1 := hid ((HK0.out.trans hk1).trans ((Kp.refl w1).alloc (Obj.cells #[.slice A2 1 c2, .slice none 0 0, .int .i64 1, .int .i64 0, .int .i64 0, .int .i64 0, .slice none 0 0] 66)))
  clear hst hst' hfv hk1 hsz HB0 HZ HK0
  go_wp2_with fail
  obtain ⟨pb, hpb⟩ : ∃ pb, w1.heap.size = pb := ⟨_, rfl⟩
  rw [hpb] at HPP ⊢
  clear hpb
  generalize w1.alloc (Obj.cells #[.slice A2 1 c2, .slice none 0 0, .int .i64 1, .int .i64 0, .int .i64 0, .int .i64 0, .slice none 0 0] 66) = W3 at HPP HB1 HK1 ⊢
  go_loopw [18] (fun i wr => ∃ k : Nat, k ≤ M.length ∧ i = .int .i64 (k : Int) ∧ Player wr (w.heap.size + 1) pb (playN st0 (M.take k)) ∧ StBox wr w.heap.size (.slice none 0 0) (.slice none 0 0) zSt ∧ Kp w wr) (fun i _ => M.length - (intOf i).toNat)
  case atStart => exact ⟨0, by omega, rfl, HPP.out, HB1.out, HK1.out⟩
  case round =>
    obtain ⟨k, hk, rfl, hP, hB, hkp⟩ := hrel
    have HKR := hid hkp
    by_cases hlt : k < M.length
    · have i1 : (k : Int) < (M.length : Int) := by omega
      have HWK := hid (show wrap64 ((k : Int) + 1) = ((k + 1 : Nat) : Int) by unfold wrap64; have := HML.out; omega)
      obtain ⟨e, he⟩ : ∃ e, M[k]? = some e := ⟨_, List.getElem?_eq_getElem hlt⟩
      obtain ⟨ev, eo, rfl, hev, lvv, e0, e1, e2, e3, e4, e5, o0, o1, o2, o3, o4, o5⟩ := at_event (HL.out.kp CeEvent.kp hkp) he
      obtain ⟨Av, cv, rfl⟩ := o2.form
      have HEV := hid (show RdEvent wr (.agg #[.int .i64 e.kind, .int .i64 e.n, .int .i64 e.v.k, .int .i64 e.v.n, .string e.v.s, .slice Av e.v.l.length cv]) e from ⟨_, rfl, o0, o1, o2, o3, o4, o5⟩)
      obtain ⟨hbd, hrn, hdf⟩ := play_bd M k HML.out
      have HBD := hid hbd; have HRN := hid hrn; have HDF := hid hdf
      have HOE := hid (HOK.out e (List.mem_of_getElem? he))
      obtain ⟨fv3, pv3, tv3, hpl⟩ := id hP
      have p4 := hpl.c4
      have hpbl := hpl.lt
      have HP := hid hP; have HB := hid hB
      by_cases hen : (playN st0 (M.take k)).en = 0
      · have t0 : ((playN st0 (M.take k)).en != 0) = false := by simp [hen]
        have HST := hid (play_step he hen)
        have HRR := hid (HRN.out hen)
        clear hkp hk hP hB hbd hrn hdf hpl o0 o1 o2 o3 o4 o5 he hen HRN
        generalize playN st0 (M.take k) = S at HP HBD HDF HST HRR p4 t0 ⊢
        go_wp2_with fail
        refine (event_any (wr.alloc (Obj.cells #[.int .i64 e.kind, .int .i64 e.n, .int .i64 e.v.k, .int .i64 e.v.n, .string e.v.s, .slice Av e.v.l.length cv] 27)) (w.heap.size + 1) pb S _ e (HP.out.kp ((Kp.refl _).alloc _)) (HEV.out.kp ((Kp.refl _).alloc _)) HOE.out HBD.out HRR.out HDF.out).mono ?_
        rintro e' w4 ⟨rfl, hp4, hb4⟩
        have HP4 := hid (HST.out ▸ hp4)
        have HB4 := hid ((HB.out.kp ((Kp.refl _).alloc (Obj.cells #[.int .i64 e.kind, .int .i64 e.n, .int .i64 e.v.k, .int .i64 e.v.n, .string e.v.s, .slice Av e.v.l.length cv] 27))).below hb4 (by omega))
        have HK4 := hid (show Kp w w4 from Below.trans (HKR.out.trans ((Kp.refl _).alloc (Obj.cells #[.int .i64 e.kind, .int .i64 e.n, .int .i64 e.v.k, .int .i64 e.v.n, .string e.v.s, .slice Av e.v.l.length cv] 27))) (Below.mono hb4 (by omega)))
        clear hp4 hb4 p4 t0
        go_wp2
        exact play_round (A := none) (by first | exact HWK.out | omega) hlt HP4.out HB4.out HK4.out
      · have t0 : ((playN st0 (M.take k)).en != 0) = true := by simp [hen]
        have HST := hid (play_rest hen)
        clear hkp hk hP hB hbd hrn hdf hpl o0 o1 o2 o3 o4 o5 he hen HRN
        have HD := hid (HB.out.kp ((Kp.refl _).alloc (Obj.cells #[.int .i64 e.kind, .int .i64 e.n, .int .i64 e.v.k, .int .i64 e.v.n, .string e.v.s, .slice Av e.v.l.length cv] 27)))
        have HK4 := hid (HKR.out.trans ((Kp.refl _).alloc (Obj.cells #[.int .i64 e.kind, .int .i64 e.n, .int .i64 e.v.k, .int .i64 e.v.n, .string e.v.s, .slice Av e.v.l.length cv] 27)))
        have HP := hid (show Player (wr.alloc (Obj.cells #[.int .i64 e.kind, .int .i64 e.n, .int .i64 e.v.k, .int .i64 e.v.n, .string e.v.s, .slice Av e.v.l.length cv] 27)) (w.heap.size + 1) pb (playN st0 M) by rw [HST.out]; exact HP.out.kp ((Kp.refl _).alloc _))
        go_wp2
        generalize wr.alloc (Obj.cells #[.int .i64 e.kind, .int .i64 e.n, .int .i64 e.v.k, .int .i64 e.v.n, .string e.v.s, .slice Av e.v.l.length cv] 27) = W4 at HD HK4 HP ⊢
        clear HST HBD HDF p4 t0 e0 e1 e2 e3 e4 e5 HEV HB HKR
        obtain ⟨R, hR⟩ : ∃ R, playN st0 M = R := ⟨_, rfl⟩
        rw [hR] at HP
        have HR := hid hR
        clear hR
        obtain ⟨fv4, pv4, tv4, hpl4⟩ := HP.out
        obtain ⟨A4, c4, rfl, _⟩ := hpl4.fr.len
        obtain ⟨A5, c5, rfl, _⟩ := hpl4.pn.len
        obtain ⟨A6, c6, rfl, _⟩ := hpl4.td.len
        have H4 := hid hpl4
        clear hpl4 HP
        refine wp_region_phase [8] [(0, 0), (0, 0), (0, 0), (0, 0), (0, 1), (0, 1), (0, 1), (0, 1), (0, 0), (0, 1), (0, 1)] (fun _ _ => True) [[], [0], [1], [2], [], [4], [5], [6], [3], [7], []]
          (fun (p : Nat) (x : Nat → Value) (u : World) => match p with | 0 => Kp W4 u | _ => Pl u (w.heap.size + 1) pb (.slice A4 R.fr.length c4) (.slice A5 R.pn.length c5) (.slice A6 R.told.length c6) R ∧ StBox u w.heap.size (.slice A4 R.fr.length c4) (.slice A5 R.pn.length c5) (numS R) ∧ Kp w u)
          [fun (y : Value) (u : World) => y = (.pointer (some ⟨pb, 0, none⟩) : Value),
           fun (y : Value) (u : World) => y = (.pointer (some ⟨pb, 0, none⟩) : Value),
           fun (y : Value) (u : World) => y = (.pointer (some ⟨pb, 0, none⟩) : Value),
           fun (y : Value) (u : World) => y = (.agg #[.slice A4 R.fr.length c4, .slice A5 R.pn.length c5, .int .i64 R.next, .int .i64 R.ser, .int .i64 R.en, .int .i64 R.stat] : Value),
           fun (y : Value) (u : World) => y = (.pointer (some ⟨pb, 0, none⟩) : Value),
           fun (y : Value) (u : World) => y = (.pointer (some ⟨pb, 0, none⟩) : Value),
           fun (y : Value) (u : World) => y = (.pointer (some ⟨pb, 6, none⟩) : Value),
           fun (y : Value) (u : World) => y = (.slice A6 R.told.length c6 : Value),
           fun (y : Value) (u : World) => True,
           fun (y : Value) (u : World) => y = (.slice A6 R.told.length c6 : Value),
           fun (y : Value) (u : World) => y = (.int .i64 0 : Value)]
          (by kernel_rfl) (by kernel_rfl) (by kernel_rfl) (by kernel_rfl) (by kernel_rfl) (by kernel_rfl) (fun _ _ _ => trivial) ((Kp.refl _).drew) ?hKb ?hXb ⟨fun _ _ _ _ h => h, fun _ _ _ _ h => h, fun _ _ _ _ h => h, fun _ _ _ _ h => h, fun _ _ _ _ h => h, fun _ _ _ _ h => h, fun _ _ _ _ h => h, fun _ _ _ _ h => h, fun _ _ _ _ _ => trivial, fun _ _ _ _ h => h, fun _ _ _ _ h => h, trivial⟩ ⟨?sb0, ?sb1, ?sb2, ?sb3, ?sb4, ?sb5, ?sb6, ?sb7, ?sb8, ?sb9, ?sb10, trivial⟩ ?hEb
        case hKb =>
          intro p x w w' hk h
          rcases p with _ | p
          · exact h.trans hk
          · exact ⟨h.1.kp hk, h.2.1.kp hk, h.2.2.trans hk⟩
        case hXb =>
          intro p x i v w hi h
          have e0 : upd x i v 8 = x 8 := if_neg (fun hh => hi (by rw [← hh]; decide))
          rcases p with _ | p
          · first | exact h | (simp only [e0]; exact h)
          · first | exact h | (simp only [e0]; exact h)
        case sb0 =>
          refine OpStepQ.off 0 0 (by kernel_rfl) (by kernel_rfl) ?_
          intro x u p hp hg hd K hK
          obtain rfl : p = 0 := by omega
          change Kp W4 u at hg
          clear hd
          refine ⟨?_⟩
          simp only [putsFrom, Act.put, List.setIfInBounds_toArray, List.set_cons_zero, List.set_cons_succ, Nat.reduceAdd] at hK ⊢
          go_simp
          exact hK.out _ _ (Kp.refl _) rfl
        case sb1 =>
          refine OpStepQ.off 0 0 (by kernel_rfl) (by kernel_rfl) ?_
          intro x u p hp hg hd K hK
          obtain rfl : p = 0 := by omega
          change Kp W4 u at hg
          have d0 : (x 0) = .pointer (some ⟨pb, 0, none⟩) := And.left hd
          clear hd
          refine ⟨?_⟩
          simp only [putsFrom, Act.put, List.setIfInBounds_toArray, List.set_cons_zero, List.set_cons_succ, Nat.reduceAdd, d0] at hK ⊢
          go_simp
          exact hK.out _ _ (Kp.refl _) rfl
        case sb2 =>
          refine OpStepQ.off 0 0 (by kernel_rfl) (by kernel_rfl) ?_
          intro x u p hp hg hd K hK
          obtain rfl : p = 0 := by omega
          change Kp W4 u at hg
          have d1 : (x 1) = .pointer (some ⟨pb, 0, none⟩) := And.left hd
          clear hd
          refine ⟨?_⟩
          simp only [putsFrom, Act.put, List.setIfInBounds_toArray, List.set_cons_zero, List.set_cons_succ, Nat.reduceAdd, d1] at hK ⊢
          go_simp
          exact hK.out _ _ (Kp.refl _) rfl
        case sb3 =>
          refine OpStepQ.off 0 0 (by kernel_rfl) (by kernel_rfl) ?_
          intro x u p hp hg hd K hK
          obtain rfl : p = 0 := by omega
          change Kp W4 u at hg
          have d2 : (x 2) = .pointer (some ⟨pb, 0, none⟩) := And.left hd
          clear hd
          have q0 := (H4.out.kp hg).c0
          have q1 := (H4.out.kp hg).c1
          have q2 := (H4.out.kp hg).c2
          have q3 := (H4.out.kp hg).c3
          have q4 := (H4.out.kp hg).c4
          have q5 := (H4.out.kp hg).c5
          refine ⟨?_⟩
          simp only [putsFrom, Act.put, List.setIfInBounds_toArray, List.set_cons_zero, List.set_cons_succ, Nat.reduceAdd, d2] at hK ⊢
          go_simp
          exact hK.out _ _ (Kp.refl _) rfl
        case sb4 =>
          refine OpStepQ.off 0 1 (by kernel_rfl) (by kernel_rfl) ?_
          intro x u p hp hg hd K hK
          clear hd
          refine ⟨?_⟩
          simp only [putsFrom, Act.put, List.setIfInBounds_toArray, List.set_cons_zero, List.set_cons_succ, Nat.reduceAdd] at hK ⊢
          go_simp
          exact hK.out _ _ (Kp.refl _) rfl
        case sb5 =>
          refine OpStepQ.off 0 1 (by kernel_rfl) (by kernel_rfl) ?_
          intro x u p hp hg hd K hK
          have d4 : (x 4) = .pointer (some ⟨pb, 0, none⟩) := And.left hd
          clear hd
          refine ⟨?_⟩
          simp only [putsFrom, Act.put, List.setIfInBounds_toArray, List.set_cons_zero, List.set_cons_succ, Nat.reduceAdd, d4] at hK ⊢
          go_simp
          exact hK.out _ _ (Kp.refl _) rfl
        case sb6 =>
          refine OpStepQ.off 0 1 (by kernel_rfl) (by kernel_rfl) ?_
          intro x u p hp hg hd K hK
          have d5 : (x 5) = .pointer (some ⟨pb, 0, none⟩) := And.left hd
          clear hd
          refine ⟨?_⟩
          simp only [putsFrom, Act.put, List.setIfInBounds_toArray, List.set_cons_zero, List.set_cons_succ, Nat.reduceAdd, d5] at hK ⊢
          go_simp
          exact hK.out _ _ (Kp.refl _) rfl
        case sb7 =>
          refine OpStepQ.off 0 1 (by kernel_rfl) (by kernel_rfl) ?_
          intro x u p hp hg hd K hK
          have d6 : (x 6) = .pointer (some ⟨pb, 6, none⟩) := And.left hd
          clear hd
          have q6 : u.cell? ⟨pb, 6, none⟩ = some (.slice A6 R.told.length c6) := by
            rcases p with _ | p
            · exact (H4.out.kp hg).c6
            · exact hg.1.c6
          refine ⟨?_⟩
          simp only [putsFrom, Act.put, List.setIfInBounds_toArray, List.set_cons_zero, List.set_cons_succ, Nat.reduceAdd, d6] at hK ⊢
          go_simp
          exact hK.out _ _ (Kp.refl _) rfl
        case sb8 =>
          refine OpStepQ.on 0 (by kernel_rfl) (by kernel_rfl) ?_
          intro x u hg hd K hK
          change Kp W4 u at hg
          have d3 : (x 3) = .agg #[.slice A4 R.fr.length c4, .slice A5 R.pn.length c5, .int .i64 R.next, .int .i64 R.ser, .int .i64 R.en, .int .i64 R.stat] := And.left hd
          clear hd
          have hpu := H4.out.kp hg
          have hbu := HD.out.kp hg
          obtain ⟨b0, b1, b2, b3, b4, b5, bf⟩ := hbu.cells
          have HPU := hid hpu
          have HBU := hid hbu
          have HG := hid hg
          clear hpu hbu
          refine ⟨?_⟩
          simp only [putsFrom, Act.put, List.setIfInBounds_toArray, List.set_cons_zero, List.set_cons_succ, Nat.reduceAdd, d3] at hK ⊢
          go_simp
          exact hK.out undef _ trivial (playEnd HPU.out HBU.out (HK4.out.trans HG.out) (Nat.le_refl _)) trivial
        case sb9 =>
          refine OpStepQ.off 0 1 (by kernel_rfl) (by kernel_rfl) ?_
          intro x u p hp hg hd K hK
          have d7 : (x 7) = .slice A6 R.told.length c6 := And.left hd
          clear hd
          refine ⟨?_⟩
          simp only [putsFrom, Act.put, List.setIfInBounds_toArray, List.set_cons_zero, List.set_cons_succ, Nat.reduceAdd, d7] at hK ⊢
          go_simp
          exact hK.out _ _ (Kp.refl _) rfl
        case sb10 =>
          refine OpStepQ.off 0 1 (by kernel_rfl) (by kernel_rfl) ?_
          intro x u p hp hg hd K hK
          clear hd
          refine ⟨?_⟩
          simp only [putsFrom, Act.put, List.setIfInBounds_toArray, List.set_cons_zero, List.set_cons_succ, Nat.reduceAdd] at hK ⊢
          go_simp
          exact hK.out _ _ (Kp.refl _) rfl
        intro x u hg he
        have d0 : (x 0) = .pointer (some ⟨pb, 0, none⟩) := And.left he
        have d1 : (x 1) = .pointer (some ⟨pb, 0, none⟩) := And.left (And.right he)
        have d2 : (x 2) = .pointer (some ⟨pb, 0, none⟩) := And.left (And.right (And.right he))
        have d3 : (x 3) = .agg #[.slice A4 R.fr.length c4, .slice A5 R.pn.length c5, .int .i64 R.next, .int .i64 R.ser, .int .i64 R.en, .int .i64 R.stat] := And.left (And.right (And.right (And.right he)))
        have d4 : (x 4) = .pointer (some ⟨pb, 0, none⟩) := And.left (And.right (And.right (And.right (And.right he))))
        have d5 : (x 5) = .pointer (some ⟨pb, 0, none⟩) := And.left (And.right (And.right (And.right (And.right (And.right he)))))
        have d6 : (x 6) = .pointer (some ⟨pb, 6, none⟩) := And.left (And.right (And.right (And.right (And.right (And.right (And.right he))))))
        have d7 : (x 7) = .slice A6 R.told.length c6 := And.left (And.right (And.right (And.right (And.right (And.right (And.right (And.right he)))))))
        have d9 : (x 9) = .slice A6 R.told.length c6 := And.left (And.right (And.right (And.right (And.right (And.right (And.right (And.right (And.right (And.right he)))))))))
        have d10 : (x 10) = .int .i64 0 := And.left (And.right (And.right (And.right (And.right (And.right (And.right (And.right (And.right (And.right (And.right he))))))))))
        clear he
        change Pl u (w.heap.size + 1) pb (.slice A4 R.fr.length c4) (.slice A5 R.pn.length c5) (.slice A6 R.told.length c6) R ∧ StBox u w.heap.size (.slice A4 R.fr.length c4) (.slice A5 R.pn.length c5) (numS R) ∧ Kp w u at hg
        refine ⟨?_⟩
        simp only [putsFrom, Act.put, List.setIfInBounds_toArray, List.set_cons_zero, List.set_cons_succ, Nat.reduceAdd, d0, d1, d2, d3, d4, d5, d6, d7, d9, d10]
        clear d0 d1 d2 d3 d4 d5 d6 d7 d9 d10
        obtain ⟨hpe, hbe, hke⟩ := hg
        have HPE := hid hpe; have HBE := hid hbe; have HKE := hid hke
        clear hpe hbe hke
        go_wp2
        obtain ⟨a0, a1, a2, a3, a4, a5, _⟩ := HBE.out.cells
        exact bodyPost_ret (v := .tuple #[.agg #[.slice A4 R.fr.length c4, .slice A5 R.pn.length c5, .int .i64 R.next, .int .i64 R.ser, .int .i64 R.en, .int .i64 R.stat], .slice A6 R.told.length c6, .int .i64 0]) (by simp [results, Try.results19, go_sem, a0, a1, a2, a3, a4, a5, numS]) rfl (by
            rw [HR.out]
            exact ⟨⟨_, _, _, rfl, ⟨HPE.out.fr.base (Nat.le_add_right _ _), OwnL.base_ (Nat.le_add_right _ _) HPE.out.pn, HPE.out.ok⟩, OwnL.base_ (Nat.le_add_right _ _) HPE.out.td⟩, HKE.out⟩)
    · have i1 : ¬ (k : Int) < (M.length : Int) := by omega
      have HP := hid (show Player wr (w.heap.size + 1) pb (playN st0 M) by have h := hP; rwa [List.take_of_length_le (by omega)] at h)
      have HD := hid hB; have HK4 := hid hkp
      clear hk hP hB hkp HKR
      go_wp2
      generalize wr = W4 at HD HK4 HP ⊢
      obtain ⟨R, hR⟩ : ∃ R, playN st0 M = R := ⟨_, rfl⟩
      rw [hR] at HP
      have HR := hid hR
      clear hR
      obtain ⟨fv4, pv4, tv4, hpl4⟩ := HP.out
      obtain ⟨A4, c4, rfl, _⟩ := hpl4.fr.len
      obtain ⟨A5, c5, rfl, _⟩ := hpl4.pn.len
      obtain ⟨A6, c6, rfl, _⟩ := hpl4.td.len
      have H4 := hid hpl4
      clear hpl4 HP
      refine wp_region_phase [8] [(0, 0), (0, 0), (0, 0), (0, 0), (0, 1), (0, 1), (0, 1), (0, 1), (0, 0), (0, 1), (0, 1)] (fun _ _ => True) [[], [0], [1], [2], [], [4], [5], [6], [3], [7], []]
        (fun (p : Nat) (x : Nat → Value) (u : World) => match p with | 0 => Kp W4 u | _ => Pl u (w.heap.size + 1) pb (.slice A4 R.fr.length c4) (.slice A5 R.pn.length c5) (.slice A6 R.told.length c6) R ∧ StBox u w.heap.size (.slice A4 R.fr.length c4) (.slice A5 R.pn.length c5) (numS R) ∧ Kp w u)
        [fun (y : Value) (u : World) => y = (.pointer (some ⟨pb, 0, none⟩) : Value),
         fun (y : Value) (u : World) => y = (.pointer (some ⟨pb, 0, none⟩) : Value),
         fun (y : Value) (u : World) => y = (.pointer (some ⟨pb, 0, none⟩) : Value),
         fun (y : Value) (u : World) => y = (.agg #[.slice A4 R.fr.length c4, .slice A5 R.pn.length c5, .int .i64 R.next, .int .i64 R.ser, .int .i64 R.en, .int .i64 R.stat] : Value),
         fun (y : Value) (u : World) => y = (.pointer (some ⟨pb, 0, none⟩) : Value),
         fun (y : Value) (u : World) => y = (.pointer (some ⟨pb, 0, none⟩) : Value),
         fun (y : Value) (u : World) => y = (.pointer (some ⟨pb, 6, none⟩) : Value),
         fun (y : Value) (u : World) => y = (.slice A6 R.told.length c6 : Value),
         fun (y : Value) (u : World) => True,
         fun (y : Value) (u : World) => y = (.slice A6 R.told.length c6 : Value),
         fun (y : Value) (u : World) => y = (.int .i64 0 : Value)]
        (by kernel_rfl) (by kernel_rfl) (by kernel_rfl) (by kernel_rfl) (by kernel_rfl) (by kernel_rfl) (fun _ _ _ => trivial) ((Kp.refl _).drew) ?hKc ?hXc ⟨fun _ _ _ _ h => h, fun _ _ _ _ h => h, fun _ _ _ _ h => h, fun _ _ _ _ h => h, fun _ _ _ _ h => h, fun _ _ _ _ h => h, fun _ _ _ _ h => h, fun _ _ _ _ h => h, fun _ _ _ _ _ => trivial, fun _ _ _ _ h => h, fun _ _ _ _ h => h, trivial⟩ ⟨?sc0, ?sc1, ?sc2, ?sc3, ?sc4, ?sc5, ?sc6, ?sc7, ?sc8, ?sc9, ?sc10, trivial⟩ ?hEc
      case hKc =>
        intro p x w w' hk h
        rcases p with _ | p
        · exact h.trans hk
        · exact ⟨h.1.kp hk, h.2.1.kp hk, h.2.2.trans hk⟩
      case hXc =>
        intro p x i v w hi h
        have e0 : upd x i v 8 = x 8 := if_neg (fun hh => hi (by rw [← hh]; decide))
        rcases p with _ | p
        · first | exact h | (simp only [e0]; exact h)
        · first | exact h | (simp only [e0]; exact h)
      case sc0 =>
        refine OpStepQ.off 0 0 (by kernel_rfl) (by kernel_rfl) ?_
        intro x u p hp hg hd K hK
        obtain rfl : p = 0 := by omega
        change Kp W4 u at hg
        clear hd
        refine ⟨?_⟩
        simp only [putsFrom, Act.put, List.setIfInBounds_toArray, List.set_cons_zero, List.set_cons_succ, Nat.reduceAdd] at hK ⊢
        go_simp
        exact hK.out _ _ (Kp.refl _) rfl
      case sc1 =>
        refine OpStepQ.off 0 0 (by kernel_rfl) (by kernel_rfl) ?_
        intro x u p hp hg hd K hK
        obtain rfl : p = 0 := by omega
        change Kp W4 u at hg
        have d0 : (x 0) = .pointer (some ⟨pb, 0, none⟩) := And.left hd
        clear hd
        refine ⟨?_⟩
        simp only [putsFrom, Act.put, List.setIfInBounds_toArray, List.set_cons_zero, List.set_cons_succ, Nat.reduceAdd, d0] at hK ⊢
        go_simp
        exact hK.out _ _ (Kp.refl _) rfl
      case sc2 =>
        refine OpStepQ.off 0 0 (by kernel_rfl) (by kernel_rfl) ?_
        intro x u p hp hg hd K hK
        obtain rfl : p = 0 := by omega
        change Kp W4 u at hg
        have d1 : (x 1) = .pointer (some ⟨pb, 0, none⟩) := And.left hd
        clear hd
        refine ⟨?_⟩
        simp only [putsFrom, Act.put, List.setIfInBounds_toArray, List.set_cons_zero, List.set_cons_succ, Nat.reduceAdd, d1] at hK ⊢
        go_simp
        exact hK.out _ _ (Kp.refl _) rfl
      case sc3 =>
        refine OpStepQ.off 0 0 (by kernel_rfl) (by kernel_rfl) ?_
        intro x u p hp hg hd K hK
        obtain rfl : p = 0 := by omega
        change Kp W4 u at hg
        have d2 : (x 2) = .pointer (some ⟨pb, 0, none⟩) := And.left hd
        clear hd
        have q0 := (H4.out.kp hg).c0
        have q1 := (H4.out.kp hg).c1
        have q2 := (H4.out.kp hg).c2
        have q3 := (H4.out.kp hg).c3
        have q4 := (H4.out.kp hg).c4
        have q5 := (H4.out.kp hg).c5
        refine ⟨?_⟩
        simp only [putsFrom, Act.put, List.setIfInBounds_toArray, List.set_cons_zero, List.set_cons_succ, Nat.reduceAdd, d2] at hK ⊢
        go_simp
        exact hK.out _ _ (Kp.refl _) rfl
      case sc4 =>
        refine OpStepQ.off 0 1 (by kernel_rfl) (by kernel_rfl) ?_
        intro x u p hp hg hd K hK
        clear hd
        refine ⟨?_⟩
        simp only [putsFrom, Act.put, List.setIfInBounds_toArray, List.set_cons_zero, List.set_cons_succ, Nat.reduceAdd] at hK ⊢
        go_simp
        exact hK.out _ _ (Kp.refl _) rfl
      case sc5 =>
        refine OpStepQ.off 0 1 (by kernel_rfl) (by kernel_rfl) ?_
        intro x u p hp hg hd K hK
        have d4 : (x 4) = .pointer (some ⟨pb, 0, none⟩) := And.left hd
        clear hd
        refine ⟨?_⟩
        simp only [putsFrom, Act.put, List.setIfInBounds_toArray, List.set_cons_zero, List.set_cons_succ, Nat.reduceAdd, d4] at hK ⊢
        go_simp
        exact hK.out _ _ (Kp.refl _) rfl
      case sc6 =>
        refine OpStepQ.off 0 1 (by kernel_rfl) (by kernel_rfl) ?_
        intro x u p hp hg hd K hK
        have d5 : (x 5) = .pointer (some ⟨pb, 0, none⟩) := And.left hd
        clear hd
        refine ⟨?_⟩
        simp only [putsFrom, Act.put, List.setIfInBounds_toArray, List.set_cons_zero, List.set_cons_succ, Nat.reduceAdd, d5] at hK ⊢
        go_simp
        exact hK.out _ _ (Kp.refl _) rfl
      case sc7 =>
        refine OpStepQ.off 0 1 (by kernel_rfl) (by kernel_rfl) ?_
        intro x u p hp hg hd K hK
        have d6 : (x 6) = .pointer (some ⟨pb, 6, none⟩) := And.left hd
        clear hd
        have q6 : u.cell? ⟨pb, 6, none⟩ = some (.slice A6 R.told.length c6) := by
          rcases p with _ | p
          · exact (H4.out.kp hg).c6
          · exact hg.1.c6
        refine ⟨?_⟩
        simp only [putsFrom, Act.put, List.setIfInBounds_toArray, List.set_cons_zero, List.set_cons_succ, Nat.reduceAdd, d6] at hK ⊢
        go_simp
        exact hK.out _ _ (Kp.refl _) rfl
      case sc8 =>
        refine OpStepQ.on 0 (by kernel_rfl) (by kernel_rfl) ?_
        intro x u hg hd K hK
        change Kp W4 u at hg
        have d3 : (x 3) = .agg #[.slice A4 R.fr.length c4, .slice A5 R.pn.length c5, .int .i64 R.next, .int .i64 R.ser, .int .i64 R.en, .int .i64 R.stat] := And.left hd
        clear hd
        have hpu := H4.out.kp hg
        have hbu := HD.out.kp hg
        obtain ⟨b0, b1, b2, b3, b4, b5, bf⟩ := hbu.cells
        have HPU := hid hpu
        have HBU := hid hbu
        have HG := hid hg
        clear hpu hbu
        refine ⟨?_⟩
        simp only [putsFrom, Act.put, List.setIfInBounds_toArray, List.set_cons_zero, List.set_cons_succ, Nat.reduceAdd, d3] at hK ⊢
        go_simp
        exact hK.out undef _ trivial (playEnd HPU.out HBU.out (HK4.out.trans HG.out) (Nat.le_refl _)) trivial
      case sc9 =>
        refine OpStepQ.off 0 1 (by kernel_rfl) (by kernel_rfl) ?_
        intro x u p hp hg hd K hK
        have d7 : (x 7) = .slice A6 R.told.length c6 := And.left hd
        clear hd
        refine ⟨?_⟩
        simp only [putsFrom, Act.put, List.setIfInBounds_toArray, List.set_cons_zero, List.set_cons_succ, Nat.reduceAdd, d7] at hK ⊢
        go_simp
        exact hK.out _ _ (Kp.refl _) rfl
      case sc10 =>
        refine OpStepQ.off 0 1 (by kernel_rfl) (by kernel_rfl) ?_
        intro x u p hp hg hd K hK
        clear hd
        refine ⟨?_⟩
        simp only [putsFrom, Act.put, List.setIfInBounds_toArray, List.set_cons_zero, List.set_cons_succ, Nat.reduceAdd] at hK ⊢
        go_simp
        exact hK.out _ _ (Kp.refl _) rfl
      intro x u hg he
      have d0 : (x 0) = .pointer (some ⟨pb, 0, none⟩) := And.left he
      have d1 : (x 1) = .pointer (some ⟨pb, 0, none⟩) := And.left (And.right he)
      have d2 : (x 2) = .pointer (some ⟨pb, 0, none⟩) := And.left (And.right (And.right he))
      have d3 : (x 3) = .agg #[.slice A4 R.fr.length c4, .slice A5 R.pn.length c5, .int .i64 R.next, .int .i64 R.ser, .int .i64 R.en, .int .i64 R.stat] := And.left (And.right (And.right (And.right he)))
      have d4 : (x 4) = .pointer (some ⟨pb, 0, none⟩) := And.left (And.right (And.right (And.right (And.right he))))
      have d5 : (x 5) = .pointer (some ⟨pb, 0, none⟩) := And.left (And.right (And.right (And.right (And.right (And.right he)))))
      have d6 : (x 6) = .pointer (some ⟨pb, 6, none⟩) := And.left (And.right (And.right (And.right (And.right (And.right (And.right he))))))
      have d7 : (x 7) = .slice A6 R.told.length c6 := And.left (And.right (And.right (And.right (And.right (And.right (And.right (And.right he)))))))
      have d9 : (x 9) = .slice A6 R.told.length c6 := And.left (And.right (And.right (And.right (And.right (And.right (And.right (And.right (And.right (And.right he)))))))))
      have d10 : (x 10) = .int .i64 0 := And.left (And.right (And.right (And.right (And.right (And.right (And.right (And.right (And.right (And.right (And.right he))))))))))
      clear he
      change Pl u (w.heap.size + 1) pb (.slice A4 R.fr.length c4) (.slice A5 R.pn.length c5) (.slice A6 R.told.length c6) R ∧ StBox u w.heap.size (.slice A4 R.fr.length c4) (.slice A5 R.pn.length c5) (numS R) ∧ Kp w u at hg
      refine ⟨?_⟩
      simp only [putsFrom, Act.put, List.setIfInBounds_toArray, List.set_cons_zero, List.set_cons_succ, Nat.reduceAdd, d0, d1, d2, d3, d4, d5, d6, d7, d9, d10]
      clear d0 d1 d2 d3 d4 d5 d6 d7 d9 d10
      obtain ⟨hpe, hbe, hke⟩ := hg
      have HPE := hid hpe; have HBE := hid hbe; have HKE := hid hke
      clear hpe hbe hke
      go_wp2
      obtain ⟨a0, a1, a2, a3, a4, a5, _⟩ := HBE.out.cells
      exact bodyPost_ret (v := .tuple #[.agg #[.slice A4 R.fr.length c4, .slice A5 R.pn.length c5, .int .i64 R.next, .int .i64 R.ser, .int .i64 R.en, .int .i64 R.stat], .slice A6 R.told.length c6, .int .i64 0]) (by simp [results, Try.results19, go_sem, a0, a1, a2, a3, a4, a5, numS]) rfl (by
          rw [HR.out]
          exact ⟨⟨_, _, _, rfl, ⟨HPE.out.fr.base (Nat.le_add_right _ _), OwnL.base_ (Nat.le_add_right _ _) HPE.out.pn, HPE.out.ok⟩, OwnL.base_ (Nat.le_add_right _ _) HPE.out.td⟩, HKE.out⟩)
end Go.Proofs.Ytfholconiofgoaa
