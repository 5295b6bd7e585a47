/-
  The law PanicsMemory answers true for all lists of events and each event. No condition.
-/
import Derived.SizedLaws
import Derived.Deep.CondSized
import Derived.Test.YtiicdknmoakocaaRows
import Derived.Test.YtiicdknmoakocaaPanL
import Derived.Test.YtiicdknmoakocaaPanJ
import Derived.Test.YtiicdknmoakocaaPanY
import Derived.Test.YtiicdknmoakocaaPanMt
import Derived.Deep.DeepCutAuto
namespace Go.Proofs.Ytiicdknmoakocaa.panicsMemory
open Go.ChangeShapes Go.WideShapes Go.ChangeAt Go.RowKit
open Go.ChangeMaps (open_string shut_string)
set_option linter.unusedVariables false
set_option linter.unusedSimpArgs false

theorem own : ownKnob Try.prog.godebug = none := by kernel_rfl
theorem laidOut : laidOutB Try.prog = true := by kernel_rfl


theorem evSet {u : World} {b : Nat} {e : EventM} {lv : Value} (e' : EventM) (lv' : Value) (h : EvBox u b e lv) :
    EvBox ((((((u.setCell ⟨b, 0, none⟩ (.int .i64 e'.kind)).setCell ⟨b, 1, none⟩ (.int .i64 e'.n)).setCell ⟨b, 2, none⟩ (.int .i64 e'.v.k)).setCell ⟨b, 3, none⟩ (.int .i64 e'.v.n)).setCell ⟨b, 4, none⟩ (.string e'.v.s)).setCell ⟨b, 5, none⟩ lv') b e' lv' ∧ Touch 27 u ((((((u.setCell ⟨b, 0, none⟩ (.int .i64 e'.kind)).setCell ⟨b, 1, none⟩ (.int .i64 e'.n)).setCell ⟨b, 2, none⟩ (.int .i64 e'.v.k)).setCell ⟨b, 3, none⟩ (.int .i64 e'.v.n)).setCell ⟨b, 4, none⟩ (.string e'.v.s)).setCell ⟨b, 5, none⟩ lv') :=
  ⟨blk_set (blk_set (blk_set (blk_set (blk_set (blk_set h _) _) _) _) _) _, (((((rowTouch h _).trans (rowTouch (blk_set h _) _)).trans (rowTouch (blk_set (blk_set h _) _) _)).trans (rowTouch (blk_set (blk_set (blk_set h _) _) _) _)).trans (rowTouch (blk_set (blk_set (blk_set (blk_set h _) _) _) _) _)).trans (rowTouch (blk_set (blk_set (blk_set (blk_set (blk_set h _) _) _) _) _) _)⟩
theorem rdEv1 {w : World} {e : EventM} {lv : Value} (h : RdEvent w (.agg #[.int .i64 e.kind, .int .i64 e.n, .int .i64 e.v.k, .int .i64 e.v.n, .string e.v.s, lv]) e) : RdL CeEvent 6 (w.alloc (.cells #[.int .i64 e.kind, .int .i64 e.n, .int .i64 e.v.k, .int .i64 e.v.n, .string e.v.s, lv] 27)) (.slice (some ⟨w.heap.size, 0, none⟩) 1 1) [e] := by
  obtain ⟨lv', he, h0, h1, h2, h3⟩ := h
  injection he with he
  obtain rfl : lv = lv' := by
    have := congrArg (fun z => z[5]?) he
    simpa using this
  have hb := blk_new w (.cells #[.int .i64 e.kind, .int .i64 e.n, .int .i64 e.v.k, .int .i64 e.v.n, .string e.v.s, lv] 27)
  refine ⟨some ⟨w.heap.size, 0, none⟩, 1, rfl, Nat.le_refl _, fun i x hx => ?_⟩
  match i, hx with
  | 0, hx =>
    cases hx
    refine ⟨w.heap.size, 0, [.int .i64 e.kind, .int .i64 e.n, .int .i64 e.v.k, .int .i64 e.v.n, .string e.v.s, lv], rfl, by simp, ⟨lv, rfl, h0, h1, h2.kp ((Kp.refl w).alloc _), h3⟩, rfl, fun j hj => ?_⟩
    match j, hj with
    | 0, _ => exact blk_cell (o := 0) (v := .int .i64 e.kind) hb rfl
    | 1, _ => exact blk_cell (o := 1) (v := .int .i64 e.n) hb rfl
    | 2, _ => exact blk_cell (o := 2) (v := .int .i64 e.v.k) hb rfl
    | 3, _ => exact blk_cell (o := 3) (v := .int .i64 e.v.n) hb rfl
    | 4, _ => exact blk_cell (o := 4) (v := .string e.v.s) hb rfl
    | 5, _ => exact blk_cell (o := 5) (v := lv) hb rfl
  | i + 1, hx => simp at hx
theorem ev1_at {w : World} {base : Nat} {v : Value} {e : EventM} (h : OEvs w base v [e]) : ∃ g c A n, v = .slice (some ⟨g, 0, none⟩) 1 c ∧ g < w.heap.size ∧ w.cell? ⟨g, 0, none⟩ = some (.int .i64 e.kind) ∧ w.cell? ⟨g, 1, none⟩ = some (.int .i64 e.n) ∧ w.cell? ⟨g, 2, none⟩ = some (.int .i64 e.v.k) ∧ w.cell? ⟨g, 3, none⟩ = some (.int .i64 e.v.n) ∧ w.cell? ⟨g, 4, none⟩ = some (.string e.v.s) ∧ w.cell? ⟨g, 5, none⟩ = some (.slice A e.v.l.length n) ∧ CeEvO base w [.int .i64 e.kind, .int .i64 e.n, .int .i64 e.v.k, .int .i64 e.v.n, .string e.v.s, .slice A e.v.l.length n] e := by
  obtain ⟨xs, h1, cs, r, rfl, hl, ⟨lv, rfl, ho, hok⟩, hr⟩ := h
  obtain rfl : r = [] := hr
  obtain ⟨A, n, rfl⟩ := own_form ho
  obtain ⟨g, c, rfl, _⟩ := rowSome h1 (by simp)
  refine ⟨g, c, A, n, rfl, (rowGe h1).2, ?_, ?_, ?_, ?_, ?_, ?_, ⟨_, rfl, ho, hok⟩⟩
  · exact (rowAt h1 (j := 0) (by simp)).1
  · exact (rowAt h1 (j := 1) (by simp)).1
  · exact (rowAt h1 (j := 2) (by simp)).1
  · exact (rowAt h1 (j := 3) (by simp)).1
  · exact (rowAt h1 (j := 4) (by simp)).1
  · exact (rowAt h1 (j := 5) (by simp)).1
theorem rm_at {w : World} {base k : Nat} {fv : Value} {l : List FrameM} {f : FrameM} (h : RmRow w base fv l) (hi : l[k]? = some f) : ∃ g c gd, fv = .slice (some ⟨g, 0, none⟩) l.length c ∧ g < w.heap.size ∧ RoomAt w gd f.defers ∧ w.cell? ⟨g, k * 5, none⟩ = some (.int .i64 f.id) ∧ w.cell? ⟨g, k * 5 + 1, none⟩ = some (.int .i64 f.mark) ∧ w.cell? ⟨g, k * 5 + 2, none⟩ = some (.int .i64 f.panic) ∧ w.cell? ⟨g, k * 5 + 3, none⟩ = some (.int .i64 f.phase) ∧ w.cell? ⟨g, k * 5 + 4, none⟩ = some (.slice (some ⟨gd, 0, none⟩) f.defers.length (f.defers.length + 2)) := by
  obtain ⟨L, h1, h2, h3⟩ := h
  have hl : L.length = l.length := by rw [← h2, List.length_map]
  have hk : k < L.length := by rw [hl]; exact (List.getElem?_eq_some_iff.1 hi).1
  obtain ⟨x, hx⟩ : ∃ x, L[k]? = some x := ⟨_, List.getElem?_eq_getElem hk⟩
  have hxf : x.1 = f := by
    have := congrArg (fun z => z[k]?) h2
    simp only [List.getElem?_map, hx, hi] at this
    simpa using this
  obtain ⟨g, c, e, _⟩ := rowSome h1 (by omega)
  subst e
  obtain ⟨gd, e4, _, hr⟩ := h3 x (List.mem_of_getElem? hx)
  have hx2 := (List.getElem?_eq_some_iff.1 hx).2
  have e : L = L.take k ++ x :: L.drop (k + 1) := by rw [← hx2, List.getElem_cons_drop, List.take_append_drop]
  have htl : (L.take k).length = k := by rw [List.length_take]; omega
  have hc : ∀ j, j < 5 → w.cell? ⟨g, k * 5 + j, none⟩ = (frCells x.1 x.2)[j]? := fun j hj => by
    obtain ⟨a1, _⟩ := rowAt h1 (show k * 5 + j < l.length * 5 by omega)
    have h4 := flatF_at (L.take k) (L.drop (k + 1)) x j hj
    rw [← e, htl] at h4
    exact a1.trans h4
  rw [hxf] at hr e4
  rw [e4, hxf] at hc
  exact ⟨g, c, gd, rfl, (rowGe h1).2, hr, hc 0 (by omega), hc 1 (by omega), hc 2 (by omega), hc 3 (by omega), hc 4 (by omega)⟩
theorem not99 {x : Int} (h : 0 ≤ x) : (x == -99) = false := by rw [beq_eq_false_iff_ne]; omega
theorem fr_at {w : World} {base k : Nat} {v : Value} {L : List (FrameM × Value)} {x : FrameM × Value} (h1 : w.ownsRow base 44 5 v L.length (flatF L)) (hx : L[k]? = some x) : ∃ g c, v = .slice (some ⟨g, 0, none⟩) L.length c ∧ w.cell? ⟨g, k * 5, none⟩ = some (.int .i64 x.1.id) := by
  have hk := (List.getElem?_eq_some_iff.1 hx).1
  obtain ⟨g, c, rfl, _⟩ := rowSome h1 (by omega)
  obtain ⟨a1, _⟩ := rowAt h1 (show k * 5 < L.length * 5 by omega)
  have hx2 := (List.getElem?_eq_some_iff.1 hx).2
  have e : L = L.take k ++ x :: L.drop (k + 1) := by rw [← hx2, List.getElem_cons_drop, List.take_append_drop]
  have htl : (L.take k).length = k := by rw [List.length_take]; omega
  have h4 := flatF_at (L.take k) (L.drop (k + 1)) x 0 (by omega)
  rw [← e, htl] at h4
  exact ⟨g, c, rfl, a1.trans h4⟩
theorem rowLe' {w : World} {base size n : Nat} {e : TypeId} {v : Value} {xs : List Value} (h : w.ownsRow base e size v n xs) : n ≤ maxLen := by
  rcases h.2 with ⟨_, h2⟩ | ⟨g', cap', cur, hv, hb, hg, hnc, hm, _⟩
  · omega
  · omega
theorem wrap_up' {n : Nat} (h : n + 1 ≤ maxLen) : wrap64 ((n : Int) + 1) = ((n + 1 : Nat) : Int) := by unfold maxLen at h; unfold wrap64; omega
theorem tl_round {n k : Nat} {P : World → Prop} {u : World} (hlt : k < n) (h : P u) : (∃ k1 : Nat, k1 ≤ n ∧ Value.int .i64 ((k + 1 : Nat) : Int) = .int .i64 k1 ∧ P u) ∧ n - (intOf (Value.int .i64 ((k + 1 : Nat) : Int))).toNat < n - (intOf (Value.int .i64 (k : Int))).toNat :=
  ⟨⟨k + 1, hlt, rfl, h⟩, by simp only [intOf, Int.toNat_natCast]; omega⟩
set_option maxRecDepth 20000 in
set_option maxHeartbeats 8000000 in
theorem walk (v0 : Value) (a0 : List EventM) (v1 : Value) (a1 : EventM) (w : World) (w0 : RdEventsB w v0 a0) (w1 : RdEvent w v1 a1) :
    Calls Try.prog 3 #[v0, v1] w fun e w' => e = .returned (.bool true) ∧ Kp w w' := by
  have HL := hid (show RdL CeEvent 6 w v0 a0 from w0.1)
  obtain ⟨A, c, rfl, hlc⟩ := w0.1.form
  clear w0
  obtain ⟨lv, rfl, x0, x1, x2, x3, x4, x5, x6⟩ := w1
  obtain ⟨Av, cv, rfl⟩ := x2.form
  have HEV := hid (show RdEvent w (.agg #[.int .i64 a1.kind, .int .i64 a1.n, .int .i64 a1.v.k, .int .i64 a1.v.n, .string a1.v.s, .slice Av a1.v.l.length cv]) a1 from ⟨_, rfl, x0, x1, x2, x3, x4, x5, x6⟩)
  clear x0 x1 x2 x3 x4 x5 x6
  obtain ⟨C0, hC0⟩ : ∃ C0, C0 = Obj.cells #[.int .i64 a1.kind, .int .i64 a1.n, .int .i64 a1.v.k, .int .i64 a1.v.n, .string a1.v.s, .slice Av a1.v.l.length cv] 27 := ⟨_, rfl⟩
  have HB0 := hid (show EvBox (w.alloc C0) w.heap.size a1 (.slice Av a1.v.l.length cv) from by rw [hC0]; exact blk_new _ _)
  have HK0 := hid (show Kp w (w.alloc C0) from (Kp.refl w).alloc _)
  rw [hC0] at HB0 HK0
  clear hC0
  go_enter Try.func3, Try.ntmps3
  go_wp2_with fail
  generalize (w.alloc (Obj.cells #[.int .i64 a1.kind, .int .i64 a1.n, .int .i64 a1.v.k, .int .i64 a1.v.n, .string a1.v.s, .slice Av a1.v.l.length cv] 27)) = W0 at HB0 HK0 ⊢
  refine (events_any _ a0 _ (HL.out.kp CeEvent.kp HK0.out)).mono ?_
  rintro e w1 ⟨⟨v1, rfl, h1⟩, hk1⟩
  have HOK := hid (eventsM_ok a0)
  have HML := hid (eventsM_len a0)
  generalize eventsM a0 = M at h1 HOK HML
  obtain ⟨A0, c0, rfl, hc0⟩ := h1.rd.form
  have H1 := hid h1.rd
  go_wp2_with fail
  refine (played_any _ M _ H1.out HOK.out HML.out).mono ?_
  rintro e w2 ⟨⟨vs, va, rfl, h2, h3⟩, hk2⟩
  have HG := hid (all_good HML.out)
  have HLE := hid (states_le HML.out)
  have HL0 := hid (show (st0 :: statesM st0 M).length ≠ 0 by simp)
  generalize st0 :: statesM st0 M = L at HG HLE HL0 h2
  generalize allM st0 M = T at h3
  obtain ⟨m, hm⟩ : ∃ m, L.length = m + 1 := ⟨L.length - 1, by have := HL0.out; omega⟩
  obtain ⟨S, hS⟩ : ∃ S, L[m]? = some S := ⟨_, List.getElem?_eq_getElem (by omega)⟩
  obtain ⟨hG, hT0, hgr⟩ := HG.out S (List.mem_of_getElem? hS)
  have HGS := hid hG; have HT0 := hid hT0; have HGR := hid hgr
  obtain ⟨As, cs, rfl, hLc⟩ := h2.rd.form
  obtain ⟨At, ct, rfl, hTc⟩ := h3.rd.form
  obtain ⟨b, off, rfl, hb, fv, pv, q0, q1, q2, q3, q4, q5, hst⟩ := at_sts h2 hS
  have HST := hid hst
  have HK2 := hid ((HK0.out.trans hk1).trans hk2)
  have HB2 := hid ((HB0.out.kp hk1).kp hk2)
  have HEV2 := hid HEV.out
  obtain ⟨Af, cf, rfl, _⟩ := (show RdL CeFrame 5 w2 fv (mOf S).frames from hst.1.rd).form
  obtain ⟨Ap, cp, rfl, _⟩ := (show RdL CePanic 7 w2 pv (mOf S).panics from hst.2.1.rd).form
  change w2.cell? _ = some (.int .i64 (mOf S).next) at q2
  change w2.cell? _ = some (.int .i64 (mOf S).serial) at q3
  change w2.cell? _ = some (.int .i64 (mOf S).end_) at q4
  change w2.cell? _ = some (.int .i64 (mOf S).status) at q5
  have HFL := hid hgr.fl
  have HPL := hid (show S.pn.length ≤ 600000000 by have := hgr.pl; omega)
  have k1 : IntKind.i64.wrap ((L.length : Int) - 1) = (m : Int) := by have := HLE.out; rw [IntKind.wrap_i64]; omega
  have k2 : wrap64 ((L.length : Int) - 1) = (m : Int) := by have := HLE.out; unfold wrap64; omega
  have i1 : (m : Int) < (L.length : Int) := by omega
  have HMM := hid hm
  have i0 : (0 : Int) ≤ (m : Int) := by omega
  clear h1 h2 h3 hk1 hk2 hLc hTc hc0 hlc HL H1 HOK hG hT0 hgr hst HG hS hm
  go_upto_region 5 with fail
  have HS8 := hid (show StBox (w2.alloc (.cells #[.slice Af (mOf S).frames.length cf, .slice Ap (mOf S).panics.length cp, .int .i64 (mOf S).next, .int .i64 (mOf S).serial, .int .i64 (mOf S).end_, .int .i64 (mOf S).status] 36)) w2.heap.size (.slice Af (mOf S).frames.length cf) (.slice Ap (mOf S).panics.length cp) (mOf S) from blk_new _ _)
  have HKA := hid (show Kp w2 (w2.alloc (.cells #[.slice Af (mOf S).frames.length cf, .slice Ap (mOf S).panics.length cp, .int .i64 (mOf S).next, .int .i64 (mOf S).serial, .int .i64 (mOf S).end_, .int .i64 (mOf S).status] 36)) from (Kp.refl _).alloc _)
  generalize (w2.alloc (.cells #[.slice Af (mOf S).frames.length cf, .slice Ap (mOf S).panics.length cp, .int .i64 (mOf S).next, .int .i64 (mOf S).serial, .int .i64 (mOf S).end_, .int .i64 (mOf S).status] 36)) = W1 at HS8 HKA ⊢
  clear q0 q1 q2 q3 q4 q5
  obtain ⟨q0, q1, q2, q3, q4, q5, _⟩ := HS8.out.cells
  have hl8 := blk_lt HS8.out
  have HRS := hid (roomyState_any _ (mOf S) W1 (((HST.out.kp HKA.out).rdState HFL.out HPL.out).1) (((HST.out.kp HKA.out).rdState HFL.out HPL.out).2))
  go_upto_region 6 with (go_at_call 10; go_must (refine HRS.out.mono ?_); rintro e w3 ⟨⟨fv1, pv1, rfl, hrm, hrp⟩, hk3⟩; have hrm2 := hrm; obtain ⟨_, hr1, _⟩ := hrm2; obtain ⟨A1, c1, rfl⟩ := own_form hr1; obtain ⟨A2, c2, rfl, _⟩ := (show RdL CePanic 7 w3 pv1 (mOf S).panics from by have := hrp.rd; rwa [List.reverse_reverse] at this).form; have HK3 := hid hk3; have HRM := hid hrm; have HRP := hid hrp; clear hrm hrp hk3 hr1)
  clear q0 q1 q2 q3 q4 q5 HRS
  have HS9 := hid (show StBox (w3.alloc (.cells #[.slice A1 (mOf S).frames.length c1, .slice A2 (mOf S).panics.length c2, .int .i64 (mOf S).next, .int .i64 (mOf S).serial, .int .i64 (mOf S).end_, .int .i64 (mOf S).status] 36)) w3.heap.size (.slice A1 (mOf S).frames.length c1) (.slice A2 (mOf S).panics.length c2) (mOf S) from blk_new _ _)
  have HKB := hid (show Kp w3 (w3.alloc (.cells #[.slice A1 (mOf S).frames.length c1, .slice A2 (mOf S).panics.length c2, .int .i64 (mOf S).next, .int .i64 (mOf S).serial, .int .i64 (mOf S).end_, .int .i64 (mOf S).status] 36)) from (Kp.refl _).alloc _)
  generalize (w3.alloc (.cells #[.slice A1 (mOf S).frames.length c1, .slice A2 (mOf S).panics.length c2, .int .i64 (mOf S).next, .int .i64 (mOf S).serial, .int .i64 (mOf S).end_, .int .i64 (mOf S).status] 36)) = W2 at HS9 HKB ⊢
  -- the event's own copy
  have HKC := hid ((HKA.out.trans HK3.out).trans HKB.out)
  have HB3 := hid (HB2.out.kp HKC.out)
  obtain ⟨q0, q1, q2, q3, q4, q5⟩ := HB3.out.cells
  have HEVA := hid (HEV.out.kp (HK2.out.trans HKC.out))
  have hlb := blk_lt HB3.out
  go_upto_region 7 with (go_at_call 9; go_must (refine (events_any _ [a1] _ (rdEv1 HEVA.out)).mono ?_); rintro e w4 ⟨⟨v4, rfl, h4⟩, hk4⟩; have hk4 := Kp.trans ((Kp.refl W2).alloc _) hk4; obtain ⟨eb, ce, Ax, cx, rfl, heb, e0, e1, e2, e3, e4, e5, hce⟩ := ev1_at (show OEvs w4 _ v4 [evM a1] from h4); have HCE := hid hce; have hb4 := HB3.out.kp hk4; obtain ⟨p0, p1, p2, p3, p4, p5⟩ := hb4.cells; have pf := fun j => blk_free (o := j) hb4; have HK4 := hid hk4; have HB4 := hid hb4; clear hk4 h4 hb4 hce)
  obtain ⟨g1, g2⟩ := evSet (evM a1) (.slice Ax (evM a1).v.l.length cx) HB4.out
  have hk5 := turnBelow (br := w.heap.size) (Nat.le_refl _) ((HK2.out.trans HKC.out).trans HK4.out) (.int .i64 (evM a1).kind) (.int .i64 (evM a1).n) (.int .i64 (evM a1).v.k) (.int .i64 (evM a1).v.n) (.string (evM a1).v.s) (.slice Ax (evM a1).v.l.length cx)
  have HT5 := hid g2
  have HB5 := hid g1
  have HK5 := hid hk5
  clear g1 g2 hk5 q0 q1 q2 q3 q4 q5 e0 e1 e2 e3 e4 e5 p0 p1 p2 p3 p4 p5 pf
  generalize ((((((w4.setCell ⟨w.heap.size, 0, none⟩ (.int .i64 (evM a1).kind)).setCell ⟨w.heap.size, 1, none⟩ (.int .i64 (evM a1).n)).setCell ⟨w.heap.size, 2, none⟩ (.int .i64 (evM a1).v.k)).setCell ⟨w.heap.size, 3, none⟩ (.int .i64 (evM a1).v.n)).setCell ⟨w.heap.size, 4, none⟩ (.string (evM a1).v.s)).setCell ⟨w.heap.size, 5, none⟩ (.slice Ax (evM a1).v.l.length cx)) = W4 at HT5 HB5 HK5 ⊢
  have HY8 := hid ((((HS8.out.kp HK3.out).kp HKB.out).kp HK4.out).touch HT5.out (by decide))
  have HY9 := hid ((HS9.out.kp HK4.out).touch HT5.out (by decide))
  have HST4 := hid (((HST.out.kp HKC.out).kp HK4.out).touch HT5.out (by decide) (by decide) (by decide))
  have HRM4 := hid (((HRM.out.kp HKB.out).kp HK4.out).touch HT5.out (by decide) (by decide))
  have HRP4 := hid (((HRP.out.kp HKB.out).kp HK4.out).touch HT5.out (by decide))
  have HRE4 : Hid (RdEvent W4 (.agg #[.int .i64 (evM a1).kind, .int .i64 (evM a1).n, .int .i64 (evM a1).v.k, .int .i64 (evM a1).v.n, .string (evM a1).v.s, .slice Ax (evM a1).v.l.length cx]) (evM a1)) := hid (by
    obtain ⟨lv, e1, e2, e3⟩ := HCE.out
    obtain ⟨lvv, e4, e5⟩ := CeEvO.ce (w := W4) ⟨lv, e1, ownsRow_touch (by decide) e2 HT5.out, e3⟩
    exact ⟨lvv, congrArg (fun z : List Value => Value.agg z.toArray) e4, e5⟩)
  clear HS8 HS9 HST HRM HRP HCE HB4 HB3 HB2 HT5
  have HEO := hid (evM_ok a1)
  generalize evM a1 = E at HRE4 HB5 HEO ⊢
  -- what is handed to Step
  have HRR : Hid (RdState W4 (.agg #[.slice A1 (mOf S).frames.length c1, .slice A2 (mOf S).panics.length c2, .int .i64 (mOf S).next, .int .i64 (mOf S).serial, .int .i64 (mOf S).end_, .int .i64 (mOf S).status]) (mOf S) ∧ OkSt (mOf S)) := hid (by
    have h := HST4.out.rdState HFL.out HPL.out
    refine ⟨?_, h.2⟩
    obtain ⟨_, _, _, _, g1, _, g2, g3⟩ := h.1
    exact ⟨_, _, rfl, HRM4.out.rd h.2.fr, g1, by have := HRP4.out.rd; rwa [List.reverse_reverse] at this, g2, g3⟩)
  obtain ⟨q0, q1, q2, q3, q4, q5, _⟩ := HY9.out.cells
  obtain ⟨p0, p1, p2, p3, p4, p5⟩ := HB5.out.cells
  have HC1 := hid (step_t W4 _ _ S E HRR.out.1 HRR.out.2 HRE4.out HEO.out HGS.out HGR.out HT0.out)
  go_upto_region 8 with (go_at_call 11; go_must (refine HC1.out.mono ?_); rintro e w5 ⟨⟨ft, pt, n1, n2, n3, n4, tv, er, L5, np5, rfl, hst5⟩, hk5⟩; have hst6 := hst5; obtain ⟨⟨hr1, _⟩, ys, hr2⟩ := hst6; obtain ⟨At5, ct5, rfl⟩ := own_form hr1; obtain ⟨Ap5, cp5, rfl⟩ := own_form hr2; have HK6 := hid hk5; have HST5 := hid hst5; clear hk5 hst5 hr1 hr2)
  clear HC1 q0 q1 q2 q3 q4 q5 p0 p1 p2 p3 p4 p5
  have HS10 := hid (show StBox (w5.alloc (.cells #[.slice At5 L5.length ct5, .slice Ap5 np5 cp5, .int .i64 n1, .int .i64 n2, .int .i64 n3, .int .i64 n4] 36)) w5.heap.size (.slice At5 L5.length ct5) (.slice Ap5 np5 cp5) ⟨[], [], n1, n2, n3, n4⟩ from blk_new _ _)
  have HKD := hid (show Kp w5 (w5.alloc (.cells #[.slice At5 L5.length ct5, .slice Ap5 np5 cp5, .int .i64 n1, .int .i64 n2, .int .i64 n3, .int .i64 n4] 36)) from (Kp.refl _).alloc _)
  have HZ5 := hid (show (w5.alloc (.cells #[.slice At5 L5.length ct5, .slice Ap5 np5 cp5, .int .i64 n1, .int .i64 n2, .int .i64 n3, .int .i64 n4] 36)).heap.size = w5.heap.size + 1 by simp)
  generalize (w5.alloc (.cells #[.slice At5 L5.length ct5, .slice Ap5 np5 cp5, .int .i64 n1, .int .i64 n2, .int .i64 n3, .int .i64 n4] 36)) = W5 at HS10 HKD HZ5 ⊢
  obtain ⟨q0, q1, q2, q3, q4, q5, _⟩ := ((HY9.out.kp HK6.out).kp HKD.out).cells
  obtain ⟨p0, p1, p2, p3, p4, p5⟩ := ((HB5.out.kp HK6.out).kp HKD.out).cells
  have HC2 := hid (step_t W5 _ _ S E (by obtain ⟨_, _, e1, f1, f2, f3, f4, f5⟩ := HRR.out.1; exact ⟨_, _, e1, (f1.kp CeFrame.kp HK6.out).kp CeFrame.kp HKD.out, f2, (f3.kp CePanic.kp HK6.out).kp CePanic.kp HKD.out, f4, f5⟩) HRR.out.2 ((HRE4.out.kp HK6.out).kp HKD.out) HEO.out HGS.out HGR.out HT0.out)
  go_upto_region 9 with (go_at_call 11; go_must (refine HC2.out.mono ?_); rintro e w6 ⟨⟨fu, pu, n5, n6, n7, n8, tw, es, L6, np6, rfl, hst5⟩, hk5⟩; have hst6 := hst5; obtain ⟨⟨hr1, _⟩, ys, hr2⟩ := hst6; obtain ⟨Au5, cu5, rfl⟩ := own_form hr1; obtain ⟨Av5, cv5, rfl⟩ := own_form hr2; have HK7 := hid hk5; have HST6 := hid hst5; clear hk5 hst5 hr1 hr2)
  clear HC2 q0 q1 q2 q3 q4 q5 p0 p1 p2 p3 p4 p5
  have HS13 := hid (show StBox (w6.alloc (.cells #[.slice Au5 L6.length cu5, .slice Av5 np6 cv5, .int .i64 n5, .int .i64 n6, .int .i64 n7, .int .i64 n8] 36)) w6.heap.size (.slice Au5 L6.length cu5) (.slice Av5 np6 cv5) ⟨[], [], n5, n6, n7, n8⟩ from blk_new _ _)
  have HKE := hid (show Kp w6 (w6.alloc (.cells #[.slice Au5 L6.length cu5, .slice Av5 np6 cv5, .int .i64 n5, .int .i64 n6, .int .i64 n7, .int .i64 n8] 36)) from (Kp.refl _).alloc _)
  generalize (w6.alloc (.cells #[.slice Au5 L6.length cu5, .slice Av5 np6 cv5, .int .i64 n5, .int .i64 n6, .int .i64 n7, .int .i64 n8] 36)) = W6 at HS13 HKE ⊢
  have HK56 := hid (HK7.out.trans HKE.out)
  have HK46 := hid ((HK6.out.trans HKD.out).trans HK56.out)
  have HT6 := hid (((HST5.out.kp HKD.out).kp HK56.out))
  have HTL := hid (TL.start (B2 := W5.heap.size) (HS10.out.kp HK56.out) HT6.out)
  have HU6 := hid (HST6.out.kp HKE.out)
  have HLF := hid (row_lt HST5.out.1.1)
  have HLP : Hid (∀ g, (Value.slice Ap5 np5 cp5).ownBlock = some g → W4.heap.size ≤ g ∧ g < w5.heap.size) := hid (by obtain ⟨_, xs, h⟩ := HST5.out; exact row_lt h)
  have HLD : Hid (∀ x ∈ L5, ∀ g, x.2.ownBlock = some g → g < W5.heap.size) := hid (fun x hx g hg => by have := (row_lt (HST5.out.1.2 x hx).1 g hg).2; have := HZ5.out; omega)
  have hB46 := HK46.out.le
  have hB56 := HK56.out.le
  have hz5 := HZ5.out
  clear HS10 HST5 HST6
  go_wp2
  go_loopw [16] (fun i wr => ∃ k : Nat, k ≤ L5.length ∧ i = .int .i64 k ∧ TL W6 wr W4.heap.size W5.heap.size w5.heap.size (.slice At5 L5.length ct5) (.slice Ap5 np5 cp5) ⟨[], [], n1, n2, n3, n4⟩ L5 np5) (fun i _ => L5.length - (intOf i).toNat)
  case atStart => exact ⟨0, by omega, rfl, HTL.out⟩
  case round =>
    obtain ⟨k, hk, rfl, htl⟩ := hrel
    have HTK := hid htl
    obtain ⟨q0, _⟩ := htl.bx.cells
    have hl10 := blk_lt htl.bx
    by_cases hlt : k < L5.length
    · have i1 : (k : Int) < (L5.length : Int) := by omega
      obtain ⟨x, hx⟩ : ∃ x, L5[k]? = some x := ⟨_, List.getElem?_eq_getElem hlt⟩
      obtain ⟨h5, hlen5, _⟩ := HT6.out.1.2 x (List.mem_of_getElem? hx)
      obtain ⟨ys, hys, hown⟩ := htl.sc.row h5
      obtain ⟨gT, cT, e5, _⟩ := rowSome HT6.out.1.1 (by omega)
      injection e5 with e5 _ e6
      subst e5; subst e6
      obtain ⟨hc4, u0, hc0, hf0⟩ := htl.cellF hx
      obtain ⟨Ad, cd, ed⟩ := own_form h5
      have hHS := hid (scribble_sc x.2 ys wr W4.heap.size W5.heap.size hown (by omega) (by have := htl.sc.size; omega) (HLD.out x (List.mem_of_getElem? hx)))
      have HX := hid hx
      have HSW := hid htl.sc.size
      rw [ed] at hHS hc4
      have wk : wrap64 ((k : Int) + 1) = ((k + 1 : Nat) : Int) := wrap_up' (by have := rowLe' HT6.out.1.1; omega)
      have HWK := hid wk
      have hgT := HLF.out gT rfl
      clear h5 hown hys hlen5 htl hx ed wk
      go_wp2_with (go_at_call 12; go_must (refine hHS.out.mono ?_); rintro e w7 ⟨rfl, hs7, ht7⟩; have htl7 := HTK.out.scrib hs7 ht7 (by omega); have HT7 := hid htl7; obtain ⟨p0, _⟩ := htl7.bx.cells; obtain ⟨_, u1, hd0, hd1⟩ := htl7.cellF HX.out; clear htl7 hs7 ht7)
      rw [HWK.out]
      exact tl_round (P := fun v => TL W6 v W4.heap.size W5.heap.size w5.heap.size _ _ _ L5 np5) hlt (HT7.out.setF hlt hgT.1 (by omega) _)
    · obtain rfl : k = L5.length := by omega
      have i1 : ¬ (L5.length : Int) < (L5.length : Int) := by omega
      clear htl
      go_wp2
      clear q0
      go_loopw [17] (fun i wr => ∃ k : Nat, k ≤ np5 ∧ i = .int .i64 k ∧ TL W6 wr W4.heap.size W5.heap.size w5.heap.size (.slice At5 L5.length ct5) (.slice Ap5 np5 cp5) ⟨[], [], n1, n2, n3, n4⟩ L5 np5) (fun i _ => np5 - (intOf i).toNat)
      case atStart => exact ⟨0, by omega, rfl, HTK.out⟩
      case round =>
        obtain ⟨k, hk, rfl, htl⟩ := hrel
        have HTK := hid htl
        obtain ⟨_, q1, _⟩ := htl.bx.cells
        have hl10 := blk_lt htl.bx
        by_cases hlt : k < np5
        · have i1 : (k : Int) < (np5 : Int) := by omega
          obtain ⟨xs6, hxs6⟩ := HT6.out.2
          obtain ⟨gT, cT, e5, _⟩ := rowSome hxs6 (by omega)
          injection e5 with e5 _ e6
          subst e5; subst e6
          obtain ⟨u1, hd0, hd1⟩ := htl.cellP hlt
          have wk : wrap64 ((k : Int) + 1) = ((k + 1 : Nat) : Int) := wrap_up' (by have := rowLe' hxs6; omega)
          have HWK := hid wk
          have hgT := HLP.out gT rfl
          clear htl wk hxs6
          go_wp2
          rw [HWK.out]
          exact tl_round (P := fun v => TL W6 v W4.heap.size W5.heap.size w5.heap.size _ _ _ L5 np5) hlt (HTK.out.setP hlt hgT.1 (by omega) _)
        · obtain rfl : k = np5 := by omega
          have i1 : ¬ (k : Int) < (k : Int) := by omega
          have HKX := hid (show Kp W4 wr from Below.trans HK46.out htl.sc.below)
          have HSX := hid htl.sc
          have HS13' := hid (box_high htl.sc HS13.out (by have := HK7.out.le; omega))
          have HU' := hid (own_high htl.sc HU6.out.1.1 (Nat.le_refl _))
          clear htl
          go_wp2
          clear q1
          generalize hwx : wr = wx at HKX HSX HS13' HU' ⊢
          clear hwx HTK HTL
          have HZ8 := hid (HY8.out.kp HKX.out)
          have HZ9 := hid (HY9.out.kp HKX.out)
          have HFR := hid (show RdL CeFrame 5 wx (.slice Af (mOf S).frames.length cf) (mOf S).frames from HST4.out.1.rd.kp CeFrame.kp HKX.out)
          have HFM := hid (HRM4.out.kp HKX.out)
          have HPR := hid (show RdL CePanic 7 wx (.slice Ap (mOf S).panics.length cp) (mOf S).panics from HST4.out.2.1.rd.kp CePanic.kp HKX.out)
          have HPM := hid (show RdL CePanic 7 wx (.slice A2 (mOf S).panics.length c2) (mOf S).panics from by have h := HRP4.out.rd.kp CePanic.kp HKX.out; rwa [List.reverse_reverse] at h)
          have HKW := hid (Kp.trans (show Kp w W4 from HK5.out) HKX.out)
          have HFB := hid (show (mOf S).frames.length ≤ 30 from by have := HFL.out; show S.fr.reverse.length ≤ 30; rw [List.length_reverse]; exact this)
          have HPB := hid (show (mOf S).panics.length ≤ 600000000 from by have := HPL.out; show S.pn.reverse.length ≤ _; rw [List.length_reverse]; exact this)
          clear HY8 HY9 HST4 HRM4 HRP4 HRR HRE4 HB5
          go_loopw [18] (fun i wr => ∃ k : Nat, k ≤ (mOf S).frames.length ∧ i = .int .i64 k ∧ Kp wx wr) (fun i _ => (mOf S).frames.length - (intOf i).toNat)
          case atStart => exact ⟨0, by omega, rfl, Kp.refl _⟩
          case round =>
            obtain ⟨k, hk, rfl, hkp⟩ := hrel
            have HKP := hid hkp
            obtain ⟨q0, _⟩ := (HZ8.out.kp hkp).cells
            obtain ⟨p0, _⟩ := (HZ9.out.kp hkp).cells
            have hl8 := blk_lt (HZ8.out.kp hkp)
            have hl9 := blk_lt (HZ9.out.kp hkp)
            by_cases hlt : k < (mOf S).frames.length
            · have i1 : (k : Int) < ((mOf S).frames.length : Int) := by omega
              have wk : wrap64 ((k : Int) + 1) = ((k + 1 : Nat) : Int) := wrap_up (by have := HFB.out; omega)
              have HWK := hid wk
              obtain ⟨f, hf⟩ : ∃ f, (mOf S).frames[k]? = some f := ⟨_, List.getElem?_eq_getElem hlt⟩
              obtain ⟨fb, fo, e7, hfb, ld, g0, _, _, g3, g4, _, _, _, _, hld, _⟩ := at_frame (HFR.out.kp CeFrame.kp hkp) hf
              subst e7
              obtain ⟨A5, c5, rfl⟩ := hld.form
              obtain ⟨g1, c1', gd, e8, hg1, hroom, r0, r1, r2, r3, r4⟩ := rm_at (HFM.out.kp hkp) hf
              injection e8 with e8 _ e9
              subst e8; subst e9
              have HRO := hid hroom; have HLD := hid hld
              clear hroom hld hf hkp wk
              go_upto_region 22 with fail
              have HFX := hid (blk_new wr (.cells #[.int .i64 f.id, .int .i64 f.mark, .int .i64 f.panic, .int .i64 f.phase, .slice (some ⟨gd, 0, none⟩) f.defers.length (f.defers.length + 2)] 44))
              have HK7 := hid (show Kp wr (wr.alloc (.cells #[.int .i64 f.id, .int .i64 f.mark, .int .i64 f.panic, .int .i64 f.phase, .slice (some ⟨gd, 0, none⟩) f.defers.length (f.defers.length + 2)] 44)) from (Kp.refl _).alloc _)
              generalize (wr.alloc (.cells #[.int .i64 f.id, .int .i64 f.mark, .int .i64 f.panic, .int .i64 f.phase, .slice (some ⟨gd, 0, none⟩) f.defers.length (f.defers.length + 2)] 44)) = W7 at HFX HK7 ⊢
              refine pmem22 wr.heap.size w2.heap.size fb fo (mOf S).frames.length cf k gd c5 A5 f.id f.phase f.defers (blk_lt HFX.out) (Nat.lt_of_lt_of_le hl8 HK7.out.le) (Nat.lt_of_lt_of_le hfb HK7.out.le) (blk_cell (o := 0) HFX.out rfl) (blk_cell (o := 3) HFX.out rfl) (blk_cell (o := 4) HFX.out rfl) (cell_kp HK7.out hl8 q0) (cell_kp HK7.out hfb g0) (cell_kp HK7.out hfb g3) (cell_kp HK7.out hfb g4) i1 (HRO.out.kp HK7.out) (HLD.out.kp HK7.out) (fun u hg => ?_)
              have HKU := hid (HKP.out.trans (HK7.out.trans hg))
              clear hg
              go_wp2
              rw [HWK.out]
              exact tl_round (P := fun v => Kp wx v) hlt HKU.out
            · obtain rfl : k = (mOf S).frames.length := by omega
              have i1 : ¬ ((mOf S).frames.length : Int) < ((mOf S).frames.length : Int) := by omega
              have HKY := hid hkp
              clear hkp HKP
              go_wp2
              clear q0 p0
              go_loopw [20] (fun i wr => ∃ k : Nat, k ≤ (mOf S).panics.length ∧ i = .int .i64 k ∧ Kp wx wr) (fun i _ => (mOf S).panics.length - (intOf i).toNat)
              case atStart => exact ⟨0, by omega, rfl, HKY.out⟩
              case round =>
                obtain ⟨k, hk, rfl, hkp⟩ := hrel
                have HKP := hid hkp
                obtain ⟨_, q1, _⟩ := (HZ8.out.kp hkp).cells
                obtain ⟨_, p1, _⟩ := (HZ9.out.kp hkp).cells
                have hl8 := blk_lt (HZ8.out.kp hkp)
                have hl9 := blk_lt (HZ9.out.kp hkp)
                by_cases hlt : k < (mOf S).panics.length
                · have i1 : (k : Int) < ((mOf S).panics.length : Int) := by omega
                  have wk : wrap64 ((k : Int) + 1) = ((k + 1 : Nat) : Int) := wrap_up (by have := HPB.out; omega)
                  have HWK := hid wk
                  obtain ⟨f, hf⟩ : ∃ f, (mOf S).panics[k]? = some f := ⟨_, List.getElem?_eq_getElem hlt⟩
                  obtain ⟨qb, qo, e7, hqb, _, s0, _, _, _, _, s5, s6, _⟩ := at_panic (HPR.out.kp CePanic.kp hkp) hf
                  subst e7
                  obtain ⟨pb, po, e8, hpb, _, r0, _, _, _, _, r5, r6, _⟩ := at_panic (HPM.out.kp CePanic.kp hkp) hf
                  subst e8
                  clear hf hkp wk
                  go_upto_region 27 with fail
                  refine pmem27 w3.heap.size w2.heap.size pb po qb qo (mOf S).panics.length c2 cp k f.serial f.rcd f.abt hl9 hl8 hpb hqb p1 q1 r0 r5 r6 s0 s5 s6 i1 (fun u hg => ?_)
                  have HKU := hid (HKP.out.trans hg)
                  clear hg
                  go_wp2
                  rw [HWK.out]
                  exact tl_round (P := fun v => Kp wx v) hlt HKU.out
                · obtain rfl : k = (mOf S).panics.length := by omega
                  have i1 : ¬ ((mOf S).panics.length : Int) < ((mOf S).panics.length : Int) := by omega
                  have HKZ := hid hkp
                  clear hkp HKP
                  go_wp2
                  clear q1 p1
                  go_loopw [21] (fun i wr => ∃ k : Nat, k ≤ L6.length ∧ i = .int .i64 k ∧ Kp wx wr) (fun i _ => L6.length - (intOf i).toNat)
                  case atStart => exact ⟨0, by omega, rfl, HKZ.out⟩
                  case round =>
                    obtain ⟨k, hk, rfl, hkp⟩ := hrel
                    have HKP := hid hkp
                    obtain ⟨q0, _⟩ := (HS13'.out.kp hkp).cells
                    have hu := ownsRow_keep HU'.out hkp
                    by_cases hlt : k < L6.length
                    · have i1 : (k : Int) < (L6.length : Int) := by omega
                      have wk : wrap64 ((k : Int) + 1) = ((k + 1 : Nat) : Int) := wrap_up' (by have := rowLe' hu; omega)
                      have HWK := hid wk
                      obtain ⟨x, hx⟩ : ∃ x, L6[k]? = some x := ⟨_, List.getElem?_eq_getElem hlt⟩
                      have hid0 := (HU6.out.1.2 x (List.mem_of_getElem? hx)).2.2
                      obtain ⟨gT, cT, e5, g0⟩ := fr_at hu hx
                      injection e5 with e5 _ e6
                      subst e5; subst e6
                      have t9 := not99 hid0
                      clear hu hkp wk hx hid0
                      go_wp2
                      rw [HWK.out]
                      exact tl_round (P := fun v => Kp wx v) hlt HKP.out
                    · obtain rfl : k = L6.length := by omega
                      have i1 : ¬ (L6.length : Int) < (L6.length : Int) := by omega
                      clear hu hkp
                      go_wp2
                      go_ret
                      exact ⟨rfl, HKW.out.trans HKP.out⟩
/-! ### The row's step (the guide's frame, written by program) -/
set_option maxRecDepth 100000 in
theorem lifted (os : Os) (started : os.Started) (H : Type) (enc : TypeId × Value → H) :
    ReturnsInHanded {} Try.checked os 3 .any (Rows.panicsMemorySpec.pre6 enc Try.prog Try.f3 Rows.panicsMemoryRow.domain false) (Rows.panicsMemorySpec.post enc Try.prog Try.f3 false true false false) := by
  refine returnsInHanded_of_change_sized (C := Try.checked) own started (by kernel_rfl) Try.func3
    (ChangeSpec.witness6 (enc := enc) (C := Try.checked) false ⟨#[], #[.slice none 0 0, .agg #[.int .i64 0, .int .i64 0, .int .i64 0, .int .i64 0, .string ⟨#[]⟩, .slice none 0 0]], []⟩ 8 (by kernel_rfl) (by kernel_rfl) (by kernel_rfl) (by kernel_rfl)) ?_
  intro W base args ds gs before hval0 hW _ hsz0 _
  have hsz : (DataW.weightsEach Try.prog (Try.f3.params.toList ++ Rows.panicsMemorySpec.plain.varTypes Try.prog) (ds ++ gs)).all (· ≤ reachBytes) = true := hsz0
  clear hsz0
  have hval : ∀ (j : Nat) t v, Try.f3.params[j]? = some t → args[j]? = some v → Value.okWide Try.prog W .any base t v := hval0
  have hW' := hW
  obtain ⟨p, q, hA0, hV, rfl, hfz, hnd⟩ := hW
  have hA : DataW.TrodAll enc Try.prog W 0 (fun _ => true) true Try.f3.params.toList args.toList ds p := hA0
  rw [Try.params3] at hA hval hsz
  obtain ⟨v0, vs0, d0, ds0, p0, q0, hargs, rfl, rfl, h0, r0⟩ := trodAll_cons hA
  obtain ⟨v1, vs1, d1, ds1, p1, q1, rfl, rfl, rfl, h1, r1⟩ := trodAll_cons r0
  obtain ⟨rfl, rfl, rfl⟩ := trodAll_nil r1
  obtain rfl : args = #[v0, v1] := by cases args; simp_all
  obtain ⟨rfl, rfl⟩ := trodVars_none hV
  have k0 := h0
  have lt0 : ∀ x ∈ p0, x.block < W.heap.size := by obtain ⟨m, hm⟩ := k0; exact DataW.trod_lt m _ _ _ hm
  have hz0 : ∀ n ∈ DataW.weights Try.prog 22 d0, n ≤ reachBytes := fun n hn => by
    have := List.all_eq_true.1 hsz _ (DataW.weights_mem_each (j := 0) rfl rfl n hn)
    simpa using this
  obtain ⟨a0, w0⟩ := open_events (hval 0 22 v0 rfl rfl) h0 hz0
  have k1 := h1
  have lt1 : ∀ x ∈ p1, x.block < W.heap.size := by obtain ⟨m, hm⟩ := k1; exact DataW.trod_lt m _ _ _ hm
  have hz1 : ∀ n ∈ DataW.weights Try.prog 27 d1, n ≤ reachBytes := fun n hn => by
    have := List.all_eq_true.1 hsz _ (DataW.weights_mem_each (j := 1) rfl rfl n hn)
    simpa using this
  obtain ⟨a1, w1⟩ := open_event (hval 1 27 v1 rfl rfl) h1 hz1
  clear hA0 hval0
  simp only [List.append_nil] at hW'
  refine (walk v0 a0 v1 a1 W w0 w1).mono fun e W' ⟨he, bel⟩ => ?_
  subst he
  exact ⟨_, rfl, _, _, _, [], _, [], hW', trodAll_mk1 (shut_bool Try.underlying4 _), (trodAll_cons_mk (Below.trod laidOut (by kernel_rfl) (of_decide_eq_true (by kernel_rfl)) k0 bel lt0) (trodAll_cons_mk (Below.trod laidOut (by kernel_rfl) (of_decide_eq_true (by kernel_rfl)) k1 bel lt1) trodAll_mk0)), rfl, Below.frame bel _, fun h => by cases h⟩

theorem over : Rows.panicsMemoryRow.holds Try.pinned (OpenSpec.ofChange Rows.panicsMemorySpec) :=
  OpenClaim.holds_of_wide 3 Try.f3 rfl rfl rfl rfl rfl rfl rfl ⟨rfl, rfl, rfl, rfl, rfl⟩ rfl rfl rfl rfl rfl (by kernel_rfl) Try.func3 (by kernel_rfl)
    (of_decide_eq_true (by kernel_rfl)) (by unfold Func.isWrapper; rw [if_neg (of_decide_eq_false (by kernel_rfl))]; exact ⟨rfl, rfl⟩)
    (fun os started H enc _ => lifted os started H enc)

/-- THE STATEMENT. -/
theorem proved : Rows.PanicsMemorySaid := over
#print axioms proved

end Go.Proofs.Ytiicdknmoakocaa.panicsMemory
