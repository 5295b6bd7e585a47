/-
  The law DefersMemory answers true for all lists of calls and each call. No condition.
-/
import Derived.SizedLaws
import Derived.Deep.CondSized
import Derived.Test.YtmcidhjcimjeiaaRows
import Derived.Test.YtmcidhjcimjeiaaScCalls
import Derived.Test.YtmcidhjcimjeiaaOrder
namespace Go.Proofs.Ytmcidhjcimjeiaa.defersMemory
open Go.ChangeShapes Go.WideShapes Go.ChangeAt Go.RowKit
open Go.ChangeMaps (open_string shut_string)
set_option linter.unusedVariables false

theorem own : ownKnob Try.prog.godebug = none := by kernel_rfl
theorem laidOut : laidOutB Try.prog = true := by kernel_rfl


theorem rowHigh {lo hi base size n : Nat} {e : TypeId} {w w' : World} {v : Value} {xs : List Value} (h : w.ownsRow base e size v n xs) (hs : Sc lo hi w w') (hb : hi ≤ base) : w'.ownsRow base e size v n xs := by
  obtain ⟨h1, h2⟩ := h
  refine ⟨h1, ?_⟩
  rcases h2 with h2 | ⟨g, cap, cur, hv, hg, hq, r⟩
  · exact .inl h2
  · exact .inr ⟨g, cap, cur, hv, hg, (hs.high g (by omega) (blk_lt hq)).trans hq, r⟩
theorem callsHigh {lo hi base : Nat} {w w' : World} {v : Value} {l : List CallM} (h : OCalls w base v l) (hs : Sc lo hi w w') (hb : hi ≤ base) : OCalls w' base v l := by
  obtain ⟨xs, h1, h2⟩ := h
  exact ⟨xs, rowHigh h1 hs hb, h2.mono fun cs a ⟨la, g1, g2, g3⟩ => ⟨la, g1, rowHigh g2 hs hb, g3⟩⟩
theorem callsXHigh {lo hi base top n : Nat} {w w' : World} {v : Value} (h : CallsX w base top v n) (hs : Sc lo hi w w') (hb : hi ≤ base) : CallsX w' base top v n := by
  obtain ⟨xs, h1, h2⟩ := h
  exact ⟨xs, rowHigh h1 hs hb, h2.mono fun cs a ha => ha.sc hs⟩
theorem callsXInt {lo hi base top n : Nat} {w w' : World} {v : Value} (h : CallsX w base top v n) (hs : Sc lo hi w w') (ht : Touch 3 w w') : CallsX w' base top v n := by
  obtain ⟨xs, h1, h2⟩ := h
  exact ⟨xs, ownsRow_touch (by decide) h1 ht, h2.mono fun cs a ha => ha.sc hs⟩
theorem callsXKp {base top n : Nat} {w w' : World} {v : Value} (h : CallsX w base top v n) (hk : Kp w w') : CallsX w' base top v n := by
  obtain ⟨xs, h1, h2⟩ := h
  exact ⟨xs, ownsRow_keep h1 hk, h2.mono fun cs a ha => by
    obtain ⟨s, f, la, ys, e, q1, q2⟩ := ha
    exact ⟨s, f, la, ys, e, ownsRow_keep q1 hk, q2⟩⟩
theorem callsXform {base top n : Nat} {w : World} {v : Value} (h : CallsX w base top v n) : ∃ A c, v = .slice A n c := by
  obtain ⟨xs, h1, _⟩ := h; exact own_form h1
theorem len1 {r : List CallM} {m : CallM} (h : ((r ++ [m]).length + 1) * 40 ≤ 140737488355328) : (r.length + 1) * 40 ≤ 140737488355328 := Nat.le_trans (Nat.mul_le_mul_right 40 (by simp)) h
theorem bnds {n : Nat} (h : n * 40 ≤ 140737488351232) : (n + 1) * 40 ≤ 140737488355328 ∧ (n + 1 + 2) * 40 ≤ 140737488355328 ∧ (n + 2) * 40 ≤ 140737488355328 ∧ (n - 1 + 2) * 40 ≤ 140737488355328 ∧ n ≤ 140737488355328 := by omega
theorem bnda {n : Nat} (h : n * 8 ≤ 140737488351232) : (n + 2) * 8 ≤ 140737488355328 ∧ (n + 3) * 8 ≤ 140737488355328 := by omega
theorem cell_set_ne' {w : World} {b o o' : Nat} {u : Value} (h : w.cell? ⟨b, o, none⟩ = some u) (hne : o ≠ o') (v : Value) : (w.setCell ⟨b, o', none⟩ v).cell? ⟨b, o, none⟩ = some u :=
  (World.cell?_setCell_other _ _ _ _ (fun e => hne (by injection e with _ e1; exact e1.symm))).trans h
theorem cell_of_blk {w w' : World} {b o : Nat} (h : w'.heap[b]? = w.heap[b]?) : w'.cell? ⟨b, o, none⟩ = w.cell? ⟨b, o, none⟩ := by simp [World.cell?, h]
/-- What Pop gives, as far as a scribbler asks. -/
def PopX (n : Nat) (w : World) (e : Ending) (w' : World) : Prop := (∃ v1 s f la ok ys, e = .returned (.tuple #[v1, .agg #[.int .i64 s, .int .i64 f, la], .bool ok]) ∧ CallsX w' w.heap.size w'.heap.size v1 (n - 1) ∧ OwnI w' w.heap.size la ys ∧ (ys.length + 3) * 8 ≤ 140737488355328) ∧ Kp w w'
theorem pop_x (v : Value) (l : List CallM) (w : World) (h : RdCalls w v l) (hl : (l.length + 1) * 40 ≤ 140737488355328) : Calls Try.prog 17 #[v] w (PopX l.length w) := by
  rcases List.eq_nil_or_concat l with rfl | ⟨r, m, rfl⟩
  · exact (pop_nil v w h).mono fun e w' ⟨h1, h2⟩ => ⟨⟨_, 0, 0, _, false, [], h1, ⟨[], World.ownsRow_nil _ _ _ _, rfl⟩, OwnI.nil _ _, by decide⟩, h2⟩
  · rw [List.concat_eq_append] at *
    refine (pop_any v r m w h (len1 hl)).mono fun e w' ⟨⟨v1, v2, h1, h2, la, h3, h4, h5⟩, hk⟩ => ⟨⟨v1, m.site, m.fn, la, true, m.args, ?_, ?_, h4, (bnda h5.2.2.2).2⟩, hk⟩
    · rw [h1, h3]
    · have := CallsX.of h2
      simpa using this
set_option maxRecDepth 20000 in
set_option maxHeartbeats 2000000 in
theorem walk (v0 : Value) (a0 : List CallM) (v1 : Value) (a1 : CallM) (w : World) (w0 : RdCallsB w v0 a0) (w1 : RdCall w v1 a1) :
    Calls Try.prog 7 #[v0, v1] w fun e w' => e = .returned (.bool true) ∧ Kp w w' := by
  obtain ⟨R0, b0⟩ := w0
  have R0' : RdCalls w v0 a0 := R0
  have HL := hid R0'; have HC := hid w1
  obtain ⟨hl, hl2, hl3, hl4, hl5⟩ := bnds b0
  obtain ⟨A, c, rfl, hlc⟩ := R0.form
  obtain ⟨la, rfl, o0, o1, o2, o3⟩ := w1
  obtain ⟨A2, c2, rfl⟩ := o2.form
  have HA := hid o2; have HOK := hid (show okI a1.site ∧ okI a1.fn from ⟨o0, o1⟩)
  obtain ⟨hr2, hr3⟩ := bnda o3
  clear R0 o2 R0' o0 o1
  go_enter Try.func7, Try.ntmps7
  go_wp2_with fail
  have hc := roomyCalls_any _ a0 _ (HL.out.kp ((Kp.refl _).alloc (.cells #[.int .i64 a1.site, .int .i64 a1.fn, .slice A2 a1.args.length c2] 25))) hl
  refine hc.mono ?_; clear hc
  rintro e u1 ⟨⟨g, rfl, hgw, hroom⟩, hk1⟩
  have K1 := hid (((Kp.refl w).alloc (.cells #[.int .i64 a1.site, .int .i64 a1.fn, .slice A2 a1.args.length c2] 25)).trans hk1)
  have F1 := hid ((HeldC.mk_ w a1 (.slice A2 a1.args.length c2)).kp hk1)
  have HRM := hid hroom
  obtain ⟨x0, x1, x2, _, _⟩ := F1.out
  have F2 := hid (F1.out.kp ((Kp.refl _).alloc (.cells #[.int .i64 a1.site, .int .i64 a1.fn, .slice A2 a1.args.length c2] 25)))
  obtain ⟨y0, y1, y2, _, _⟩ := F2.out
  clear hk1 hroom
  go_wp2_with fail
  have hc := roomy_any _ a1.args _ (HA.out.kp F2.out.k) hr2
  refine hc.mono ?_; clear hc
  rintro e u2 ⟨⟨gd, rfl, hgd, hrd⟩, hk2⟩
  have F3 := hid (F2.out.kp hk2)
  have HRD := hid hrd; have HRM2 := hid (HRM.out.kp (((Kp.refl _).alloc _).trans hk2))
  clear x0 x1 x2 y0 y1 y2 hrd
  have KA : Kp u1 u2 := ((Kp.refl u1).alloc _).trans hk2
  have z0 := cell_kp (b := u1.heap.size) (o := 0) (v := .int .i64 a1.site) hk2 (by simp) (by simp [go_sem])
  have z1 := cell_kp (b := u1.heap.size) (o := 1) (v := .int .i64 a1.fn) hk2 (by simp) (by simp [go_sem])
  have z2 := cell_kp (b := u1.heap.size) (o := 2) (v := .slice A2 a1.args.length c2) hk2 (by simp) (by simp [go_sem])
  have zf : u2.frozen? ⟨u1.heap.size, 2, none⟩ = false := (hk2.cells.2 u1.heap.size 2 (by simp)).trans (by simp [go_sem])
  have hu2 : u1.heap.size < u2.heap.size := by have := hk2.le; simp at this; omega
  have KAB := hid KA
  clear hk2 KA
  have NE : u1.heap.size ≠ gd := by have h := hgd; simp at h; omega
  have KD := hid (KAB.out.setCell (p := ⟨u1.heap.size, 2, none⟩) (Nat.le_refl _) (.slice (some ⟨gd, 0, none⟩) a1.args.length (a1.args.length + 2)))
  have D0 := hid ((cell_set_ne' z0 (show 0 ≠ 2 by decide) (.slice (some ⟨gd, 0, none⟩) a1.args.length (a1.args.length + 2))))
  have D1 := hid ((cell_set_ne' z1 (show 1 ≠ 2 by decide) (.slice (some ⟨gd, 0, none⟩) a1.args.length (a1.args.length + 2))))
  have D2 := hid (World.cell?_setCell_same u2 ⟨u1.heap.size, 2, none⟩ (.slice (some ⟨gd, 0, none⟩) a1.args.length (a1.args.length + 2)) z2)
  have RD := hid (HRD.out.setCell (i := 2) NE (.slice (some ⟨gd, 0, none⟩) a1.args.length (a1.args.length + 2)))
  have KWD := hid (K1.out.trans KD.out)
  have hsD : (u2.setCell ⟨u1.heap.size, 2, none⟩ (.slice (some ⟨gd, 0, none⟩) a1.args.length (a1.args.length + 2))).heap.size = u2.heap.size := by simp [World.setCell]
  have HSD := hid hsD
  have hdr := hid (RD.out.rd (by omega) (HA.out.2.1))
  have HDC : Hid (RdCall (u2.setCell ⟨u1.heap.size, 2, none⟩ (.slice (some ⟨gd, 0, none⟩) a1.args.length (a1.args.length + 2))) (.agg #[.int .i64 a1.site, .int .i64 a1.fn, .slice (some ⟨gd, 0, none⟩) a1.args.length (a1.args.length + 2)]) a1) := hid ⟨_, rfl, HOK.out.1, HOK.out.2, hdr.out, o3⟩
  clear hdr hsD NE HRM2
  go_wp2_with fail
  clear z0 z1 z2 zf
  generalize (u2.setCell ⟨u1.heap.size, 2, none⟩ (.slice (some ⟨gd, 0, none⟩) a1.args.length (a1.args.length + 2))) = UD at KD D0 D1 D2 RD KWD HSD HDC ⊢
  have RM := hid (HRM.out.kp KD.out)
  have hc := push_any _ _ a0 a1 _ RM.out.rd HDC.out hl
  refine hc.mono ?_; clear hc
  rintro e U4 ⟨⟨va, rfl, ha⟩, hk4⟩
  have XA := hid (CallsX.of ha)
  have K4 := hid hk4
  rw [List.length_append] at XA
  obtain ⟨Aa, ca, rfl⟩ := callsXform XA.out
  clear ha hk4
  go_wp2_with fail
  have hc := pop_x _ a0 _ (RM.out.kp K4.out).rd hl
  refine hc.mono ?_; clear hc
  rintro e U5 ⟨⟨vb, sb, fb, lb, okb, yb, rfl, hb1, hb2, hb3⟩, hk5⟩
  have XB := hid hb1; have OB := hid hb2; have K5 := hid hk5
  obtain ⟨Ab, cb, rfl⟩ := callsXform XB.out
  obtain ⟨Ae, ce, rfl⟩ := own_form OB.out
  clear hb1 hb2 hk5
  have B2 := hid (show (U5.alloc (.cells #[.int .i64 sb, .int .i64 fb, .slice Ae yb.length ce] 25)).cell? ⟨U5.heap.size, 2, none⟩ = some (.slice Ae yb.length ce) by simp [go_sem])
  have K5a := hid ((Kp.refl U5).alloc (.cells #[.int .i64 sb, .int .i64 fb, .slice Ae yb.length ce] 25))
  have Z5 := hid (show U5.heap.size < (U5.alloc (.cells #[.int .i64 sb, .int .i64 fb, .slice Ae yb.length ce] 25)).heap.size by simp)
  go_wp2_with fail
  generalize (U5.alloc (.cells #[.int .i64 sb, .int .i64 fb, .slice Ae yb.length ce] 25)) = U5a at B2 K5a Z5 ⊢
  have KD5 := hid ((K4.out.trans K5.out).trans K5a.out)
  have hc := order_recs _ a0 _ (RM.out.kp KD5.out).rd hl
  refine hc.mono ?_; clear hc
  rintro e U6 ⟨⟨vf, rfl, hf⟩, hk6⟩
  have XF := hid hf; have K6 := hid hk6
  obtain ⟨Af, cf, rfl, _⟩ := hf.rd.form
  have XA6 := hid (callsXKp XA.out ((K5.out.trans K5a.out).trans K6.out))
  have XB6 := hid (callsXKp XB.out (K5a.out.trans K6.out))
  have OB6 := hid (ownsRow_keep OB.out (K5a.out.trans K6.out))
  have B6 := hid (cell_kp K6.out Z5.out B2.out)
  have s4 := K4.out.le; have s5 := K5.out.le; have s5a := K5a.out.le; have s6 := K6.out.le
  have z5 := Z5.out
  have BA := hid (show ∀ g, (Value.slice Aa (a0.length + 1) ca).ownBlock = some g → g < U4.heap.size by obtain ⟨xs, q, _⟩ := XA.out; exact fun g hg => (q.lt g hg).2)
  have BB := hid (show ∀ g, (Value.slice Ab (a0.length - 1) cb).ownBlock = some g → g < U5.heap.size by obtain ⟨xs, q, _⟩ := XB.out; exact fun g hg => (q.lt g hg).2)
  have BE := hid (show ∀ g, (Value.slice Ae yb.length ce).ownBlock = some g → g < U5.heap.size from fun g hg => (World.ownsRow.lt OB.out g hg).2)
  have BF := hid (show ∀ g, (Value.slice Af a0.reverse.length cf).ownBlock = some g → g < U6.heap.size by obtain ⟨xs, q, _⟩ := hf; exact fun g hg => (q.lt g hg).2)
  clear hf hk6
  have hrl : a0.reverse.length = a0.length := List.length_reverse
  rw [hrl] at XF BF ⊢
  have XFF := hid (CallsX.of XF.out)
  rw [hrl] at XFF
  clear hrl
  go_wp2_with fail
  have hc := scribbleCalls_sc _ (a0.length + 1) U6 UD.heap.size U4.heap.size XA6.out hl2 (by omega) BA.out
  refine hc.mono ?_; clear hc
  rintro e U7 ⟨rfl, hs7⟩
  have S7 := hid hs7
  have B7 := hid ((cell_of_blk (hs7.high U5.heap.size (by omega) (by omega))).trans B6.out)
  have XB7 := hid (callsXHigh XB6.out hs7 (by omega))
  obtain ⟨yc, hyl, hyo⟩ := hs7.row OB6.out
  have OB7 := hid hyo; have YL := hid (show (yc.length + 3) * 8 ≤ 140737488355328 by rw [hyl]; exact hb3)
  have XF7 := hid (callsXHigh XFF.out hs7 (by omega)); have XG7 := hid (callsHigh XF.out hs7 (by omega))
  have s7 := hs7.size
  have b7 := B7.out
  rw [← hyl] at b7 OB7 BE
  clear hs7 hyo hyl
  go_wp2_with fail
  have hc := scribble_sc _ yc U7 U4.heap.size U5.heap.size OB7.out YL.out (by omega) BE.out
  refine hc.mono ?_; clear hc
  rintro e U8 ⟨rfl, hs8, ht8⟩
  have S8 := hid hs8; have XB8 := hid (callsXInt XB7.out hs8 ht8); have XF8 := hid (callsXHigh XF7.out hs8 (by omega)); have XG8 := hid (callsHigh XG7.out hs8 (by omega))
  have s8 := hs8.size
  clear hs8 ht8 b7
  go_wp2_with fail
  have hc := scribbleCalls_sc _ (a0.length - 1) U8 U4.heap.size U5.heap.size XB8.out hl4 (by omega) BB.out
  refine hc.mono ?_; clear hc
  rintro e U9 ⟨rfl, hs9⟩
  have S9 := hid hs9; have XF9 := hid (callsXHigh XF8.out hs9 (by omega)); have XG9 := hid (callsHigh XG8.out hs9 (by omega))
  have s9 := hs9.size
  clear hs9
  have K46 : Kp UD U6 := ((K4.out.trans K5.out).trans K5a.out).trans K6.out
  have KD9 := hid (show Kp UD U9 from Below.trans (Below.trans (Below.trans K46 S7.out.below) (Below.mono S8.out.below (by omega))) (Below.mono S9.out.below (by omega)))
  have KW9 := hid (KWD.out.trans KD9.out)
  clear K46
  go_wp2
  by_cases hn : 0 < a0.length
  · obtain ⟨m, hm⟩ : ∃ m, a0[a0.length - 1]? = some m := ⟨_, List.getElem?_eq_getElem (by omega)⟩
    have hm2 : a0.reverse[0]? = some m := by rw [List.getElem?_reverse hn]; simpa using hm
    have RF := XG9.out.rd
    obtain ⟨b, off, rfl, hb, lf, p0, p1, p2, _, _, of, _⟩ := at_call RF hm2
    obtain ⟨b2, off2, rfl, hb2, ll, q0, q1, q2, _, _, ol, _⟩ := at_call (HL.out.kp KW9.out) hm
    have P0 := hid p0; have P1 := hid p1; have P2 := hid p2; have Q0 := hid q0; have Q1 := hid q1; have Q2 := hid q2; have OF := hid of; have OL := hid ol
    have OKM := hid (show okI m.site ∧ okI m.fn ∧ m.args.length * 8 ≤ 140737488351232 by obtain ⟨xs, _, q⟩ := XG9.out; obtain ⟨_, ⟨_, _, _, o1, o2, _, o3⟩, _⟩ := q.get hm2; exact ⟨o1, o2, o3⟩)
    have d0 : decide (0 < a0.length) = true := decide_eq_true hn
    have w1 : IntKind.i64.wrap ((a0.length : Int) - 1) = (a0.length : Int) - 1 := IntWalk.i64_in _ (by omega)
    have w2 : ((a0.length : Int) - 1).toNat = a0.length - 1 := by omega
    have w3 : (0 : Int) ≤ (a0.length : Int) - 1 := by omega
    have w4 : (a0.length : Int) - 1 < (a0.length : Int) := by omega
    have w5 : (1 : Int) ≤ (a0.length : Int) := by omega
    clear hm hm2 RF p0 p1 p2 q0 q1 q2 of ol
    refine wp_region_kp [[], [0], [1], [2], [3], [3, 4], [3, 5], [3], [3], [3, 8], [3, 9], [3, 7, 10], [3, 11], [3, 6, 12], [3, 13], [3, 14]] (fun u => Kp U9 u)
      [fun (y : Value) (u : World) => y = (.slice (some ⟨b, off, none⟩) a0.length cf : Value),
       fun (y : Value) (u : World) => y = (.int .i64 (a0.length : Int) : Value),
       fun (y : Value) (u : World) => y = (.bool true : Value),
       fun (y : Value) (u : World) => y = (.bool true : Value),
       fun (y : Value) (u : World) => y = (.slice (some ⟨b, off, none⟩) a0.length cf : Value),
       fun (y : Value) (u : World) => y = (.pointer (some ⟨b, off, none⟩) : Value),
       fun (y : Value) (u : World) => y = (.agg #[.int .i64 m.site, .int .i64 m.fn, lf] : Value),
       fun (y : Value) (u : World) => y = (.slice (some ⟨b2, off2, none⟩) a0.length c : Value),
       fun (y : Value) (u : World) => y = (.slice (some ⟨b2, off2, none⟩) a0.length c : Value),
       fun (y : Value) (u : World) => y = (.int .i64 (a0.length : Int) : Value),
       fun (y : Value) (u : World) => y = (.int .i64 ((a0.length : Int) - 1) : Value),
       fun (y : Value) (u : World) => y = (.pointer (some ⟨b2, off2 + (a0.length - 1) * 3, none⟩) : Value),
       fun (y : Value) (u : World) => y = (.agg #[.int .i64 m.site, .int .i64 m.fn, ll] : Value),
       fun (y : Value) (u : World) => y = (.bool true : Value),
       fun (y : Value) (u : World) => y = (.bool false : Value),
       fun (y : Value) (u : World) => y = (.bool false : Value)]
      (by kernel_rfl) (by kernel_rfl) (by kernel_rfl) (by kernel_rfl) ((Kp.refl _).drew) (fun _ _ hk h => h.trans hk) ⟨fun _ _ _ _ h => h, fun _ _ _ _ h => h, fun _ _ _ _ h => h, fun _ _ _ _ h => h, fun _ _ _ _ h => h, fun _ _ _ _ h => h, fun _ _ _ _ h => h, fun _ _ _ _ h => h, fun _ _ _ _ h => h, fun _ _ _ _ h => h, fun _ _ _ _ h => h, fun _ _ _ _ h => h, fun _ _ _ _ h => h, fun _ _ _ _ h => h, fun _ _ _ _ h => h, fun _ _ _ _ h => h, trivial⟩ ⟨?sb0, ?sb1, ?sb2, ?sb3, ?sb4, ?sb5, ?sb6, ?sb7, ?sb8, ?sb9, ?sb10, ?sb11, ?sb12, ?sb13, ?sb14, ?sb15, trivial⟩ ?hEb
    case sb0 =>
      intro x u hg hd K hK
      clear hd
      refine ⟨?_⟩
      simp only [putsFrom, Act.put, List.setIfInBounds_toArray, List.set_cons_zero, List.set_cons_succ, Nat.reduceAdd] at hK ⊢
      go_simp
      exact hK.out _ _ (Kp.refl _) rfl
    case sb1 =>
      intro x u hg hd K hK
      have d0 : (x 0) = .slice (some ⟨b, off, none⟩) a0.length cf := And.left hd
      clear hd
      refine ⟨?_⟩
      simp only [putsFrom, Act.put, List.setIfInBounds_toArray, List.set_cons_zero, List.set_cons_succ, Nat.reduceAdd, d0] at hK ⊢
      go_simp
      exact hK.out _ _ (Kp.refl _) rfl
    case sb2 =>
      intro x u hg hd K hK
      have d1 : (x 1) = .int .i64 (a0.length : Int) := And.left hd
      clear hd
      refine ⟨?_⟩
      simp only [putsFrom, Act.put, List.setIfInBounds_toArray, List.set_cons_zero, List.set_cons_succ, Nat.reduceAdd, d1] at hK ⊢
      go_simp
      exact hK.out _ _ (Kp.refl _) rfl
    case sb3 =>
      intro x u hg hd K hK
      have d2 : (x 2) = .bool true := And.left hd
      clear hd
      refine ⟨?_⟩
      simp only [putsFrom, Act.put, List.setIfInBounds_toArray, List.set_cons_zero, List.set_cons_succ, Nat.reduceAdd, d2] at hK ⊢
      go_simp
      exact hK.out _ _ (Kp.refl _) rfl
    case sb4 =>
      intro x u hg hd K hK
      have d3 : (x 3) = .bool true := And.left hd
      clear hd
      refine ⟨?_⟩
      simp only [putsFrom, Act.put, List.setIfInBounds_toArray, List.set_cons_zero, List.set_cons_succ, Nat.reduceAdd, d3] at hK ⊢
      go_simp
      exact hK.out _ _ (Kp.refl _) rfl
    case sb5 =>
      intro x u hg hd K hK
      have d3 : (x 3) = .bool true := And.left hd
      have d4 : (x 4) = .slice (some ⟨b, off, none⟩) a0.length cf := And.left (And.right hd)
      clear hd
      refine ⟨?_⟩
      simp only [putsFrom, Act.put, List.setIfInBounds_toArray, List.set_cons_zero, List.set_cons_succ, Nat.reduceAdd, d3, d4] at hK ⊢
      go_simp
      exact hK.out _ _ (Kp.refl _) rfl
    case sb6 =>
      intro x u hg hd K hK
      have d3 : (x 3) = .bool true := And.left hd
      have d5 : (x 5) = .pointer (some ⟨b, off, none⟩) := And.left (And.right hd)
      clear hd
      have q0 := cell_kp hg hb P0.out
      have q1 := cell_kp hg hb P1.out
      have q2 := cell_kp hg hb P2.out
      rw [Nat.zero_mul, Nat.add_zero] at q0 q1 q2
      refine ⟨?_⟩
      simp only [putsFrom, Act.put, List.setIfInBounds_toArray, List.set_cons_zero, List.set_cons_succ, Nat.reduceAdd, d3, d5] at hK ⊢
      go_simp
      exact hK.out _ _ (Kp.refl _) rfl
    case sb7 =>
      intro x u hg hd K hK
      have d3 : (x 3) = .bool true := And.left hd
      clear hd
      refine ⟨?_⟩
      simp only [putsFrom, Act.put, List.setIfInBounds_toArray, List.set_cons_zero, List.set_cons_succ, Nat.reduceAdd, d3] at hK ⊢
      go_simp
      exact hK.out _ _ (Kp.refl _) rfl
    case sb8 =>
      intro x u hg hd K hK
      have d3 : (x 3) = .bool true := And.left hd
      clear hd
      refine ⟨?_⟩
      simp only [putsFrom, Act.put, List.setIfInBounds_toArray, List.set_cons_zero, List.set_cons_succ, Nat.reduceAdd, d3] at hK ⊢
      go_simp
      exact hK.out _ _ (Kp.refl _) rfl
    case sb9 =>
      intro x u hg hd K hK
      have d3 : (x 3) = .bool true := And.left hd
      have d8 : (x 8) = .slice (some ⟨b2, off2, none⟩) a0.length c := And.left (And.right hd)
      clear hd
      refine ⟨?_⟩
      simp only [putsFrom, Act.put, List.setIfInBounds_toArray, List.set_cons_zero, List.set_cons_succ, Nat.reduceAdd, d3, d8] at hK ⊢
      go_simp
      exact hK.out _ _ (Kp.refl _) rfl
    case sb10 =>
      intro x u hg hd K hK
      have d3 : (x 3) = .bool true := And.left hd
      have d9 : (x 9) = .int .i64 (a0.length : Int) := And.left (And.right hd)
      clear hd
      refine ⟨?_⟩
      simp only [putsFrom, Act.put, List.setIfInBounds_toArray, List.set_cons_zero, List.set_cons_succ, Nat.reduceAdd, d3, d9] at hK ⊢
      go_simp
      exact hK.out _ _ (Kp.refl _) rfl
    case sb11 =>
      intro x u hg hd K hK
      have d3 : (x 3) = .bool true := And.left hd
      have d7 : (x 7) = .slice (some ⟨b2, off2, none⟩) a0.length c := And.left (And.right hd)
      have d10 : (x 10) = .int .i64 ((a0.length : Int) - 1) := And.left (And.right (And.right hd))
      clear hd
      refine ⟨?_⟩
      simp only [putsFrom, Act.put, List.setIfInBounds_toArray, List.set_cons_zero, List.set_cons_succ, Nat.reduceAdd, d3, d7, d10] at hK ⊢
      go_simp
      exact hK.out _ _ (Kp.refl _) rfl
    case sb12 =>
      intro x u hg hd K hK
      have d3 : (x 3) = .bool true := And.left hd
      have d11 : (x 11) = .pointer (some ⟨b2, off2 + (a0.length - 1) * 3, none⟩) := And.left (And.right hd)
      clear hd
      have q0 := cell_kp hg hb2 Q0.out
      have q1 := cell_kp hg hb2 Q1.out
      have q2 := cell_kp hg hb2 Q2.out
      refine ⟨?_⟩
      simp only [putsFrom, Act.put, List.setIfInBounds_toArray, List.set_cons_zero, List.set_cons_succ, Nat.reduceAdd, d3, d11] at hK ⊢
      go_simp
      exact hK.out _ _ (Kp.refl _) rfl
    case sb13 =>
      intro x u hg hd K hK
      have d3 : (x 3) = .bool true := And.left hd
      have d6 : (x 6) = .agg #[.int .i64 m.site, .int .i64 m.fn, lf] := And.left (And.right hd)
      have d12 : (x 12) = .agg #[.int .i64 m.site, .int .i64 m.fn, ll] := And.left (And.right (And.right hd))
      clear hd
      refine ⟨?_⟩
      simp only [putsFrom, Act.put, List.setIfInBounds_toArray, List.set_cons_zero, List.set_cons_succ, Nat.reduceAdd, d3, d6, d12] at hK ⊢
      go_simp
      go_at_call 19
      have hc := sameCall_eq _ _ m _ ⟨lf, rfl, OKM.out.1, OKM.out.2.1, OF.out.kp hg, OKM.out.2.2⟩ ⟨ll, rfl, OKM.out.1, OKM.out.2.1, OL.out.kp hg, OKM.out.2.2⟩
      refine hc.mono ?_
      clear hc
      rintro e u' ⟨rfl, hk⟩
      dsimp only
      exact hK.out _ _ hk rfl
    case sb14 =>
      intro x u hg hd K hK
      have d3 : (x 3) = .bool true := And.left hd
      have d13 : (x 13) = .bool true := And.left (And.right hd)
      clear hd
      refine ⟨?_⟩
      simp only [putsFrom, Act.put, List.setIfInBounds_toArray, List.set_cons_zero, List.set_cons_succ, Nat.reduceAdd, d3, d13] at hK ⊢
      go_simp
      exact hK.out _ _ (Kp.refl _) rfl
    case sb15 =>
      intro x u hg hd K hK
      have d3 : (x 3) = .bool true := And.left hd
      have d14 : (x 14) = .bool false := And.left (And.right hd)
      clear hd
      refine ⟨?_⟩
      simp only [putsFrom, Act.put, List.setIfInBounds_toArray, List.set_cons_zero, List.set_cons_succ, Nat.reduceAdd, d3, d14] at hK ⊢
      go_simp
      exact hK.out _ _ (Kp.refl _) rfl
    intro x u hg he
    have d0 : (x 0) = .slice (some ⟨b, off, none⟩) a0.length cf := And.left he
    have d1 : (x 1) = .int .i64 (a0.length : Int) := And.left (And.right he)
    have d2 : (x 2) = .bool true := And.left (And.right (And.right he))
    have d3 : (x 3) = .bool true := And.left (And.right (And.right (And.right he)))
    have d4 : (x 4) = .slice (some ⟨b, off, none⟩) a0.length cf := And.left (And.right (And.right (And.right (And.right he))))
    have d5 : (x 5) = .pointer (some ⟨b, off, none⟩) := And.left (And.right (And.right (And.right (And.right (And.right he)))))
    have d6 : (x 6) = .agg #[.int .i64 m.site, .int .i64 m.fn, lf] := And.left (And.right (And.right (And.right (And.right (And.right (And.right he))))))
    have d7 : (x 7) = .slice (some ⟨b2, off2, none⟩) a0.length c := And.left (And.right (And.right (And.right (And.right (And.right (And.right (And.right he)))))))
    have d8 : (x 8) = .slice (some ⟨b2, off2, none⟩) a0.length c := And.left (And.right (And.right (And.right (And.right (And.right (And.right (And.right (And.right he))))))))
    have d9 : (x 9) = .int .i64 (a0.length : Int) := And.left (And.right (And.right (And.right (And.right (And.right (And.right (And.right (And.right (And.right he)))))))))
    have d10 : (x 10) = .int .i64 ((a0.length : Int) - 1) := And.left (And.right (And.right (And.right (And.right (And.right (And.right (And.right (And.right (And.right (And.right he))))))))))
    have d11 : (x 11) = .pointer (some ⟨b2, off2 + (a0.length - 1) * 3, none⟩) := And.left (And.right (And.right (And.right (And.right (And.right (And.right (And.right (And.right (And.right (And.right (And.right he)))))))))))
    have d12 : (x 12) = .agg #[.int .i64 m.site, .int .i64 m.fn, ll] := And.left (And.right (And.right (And.right (And.right (And.right (And.right (And.right (And.right (And.right (And.right (And.right (And.right he))))))))))))
    have d13 : (x 13) = .bool true := And.left (And.right (And.right (And.right (And.right (And.right (And.right (And.right (And.right (And.right (And.right (And.right (And.right (And.right he)))))))))))))
    have d14 : (x 14) = .bool false := And.left (And.right (And.right (And.right (And.right (And.right (And.right (And.right (And.right (And.right (And.right (And.right (And.right (And.right (And.right he))))))))))))))
    have d15 : (x 15) = .bool false := And.left (And.right (And.right (And.right (And.right (And.right (And.right (And.right (And.right (And.right (And.right (And.right (And.right (And.right (And.right (And.right he)))))))))))))))
    clear he
    refine ⟨?_⟩
    simp only [putsFrom, Act.put, List.setIfInBounds_toArray, List.set_cons_zero, List.set_cons_succ, Nat.reduceAdd, d0, d1, d2, d3, d4, d5, d6, d7, d8, d9, d10, d11, d12, d13, d14, d15]
    clear d0 d1 d2 d3 d4 d5 d6 d7 d8 d9 d10 d11 d12 d13 d14 d15
    have HKQ := hid hg
    generalize u = WQ at HKQ ⊢
    clear w1 w2 w3 w4 w5
    have XF9' := hid (callsXKp XF9.out HKQ.out)
    have KD9' := hid (KD9.out.trans HKQ.out)
    have sq := HKQ.out.le
    clear KD9 KW9 XF9 XG9 XG8 XF8
    go_wp2_with fail
    have hc := scribbleCalls_sc _ a0.length WQ U5a.heap.size U6.heap.size XF9'.out hl3 (by omega) BF.out
    refine hc.mono ?_; clear hc
    rintro e UA ⟨rfl, hsA⟩
    have KDA := hid (show Kp UD UA from Below.trans KD9'.out (Below.mono hsA.below (by omega)))
    have hzD : u1.heap.size < UD.heap.size := by rw [HSD.out]; exact hu2
    have c2 := cell_kp KDA.out hzD D2.out
    have F9 := hid ((F1.out.kp KD.out).kp KDA.out)
    obtain ⟨_, _, x2, _, _⟩ := F9.out
    have RMA := hid (RM.out.kp KDA.out); have RDA := hid (RD.out.kp KDA.out)
    have HLA := hid (HL.out.kp (KWD.out.trans KDA.out)); have HAA := hid (HA.out.kp (KWD.out.trans KDA.out))
    clear hsA
    go_wp2_with (first
      | (go_at_call 29; go_must (refine (stayedCalls_any g _ a0 _ RMA.out HLA.out hl5).mono ?_); rintro e UB ⟨rfl, hkB⟩; have c2' := cell_kp hkB (Nat.lt_of_lt_of_le hzD KDA.out.le) c2; have x2' := cell_kp hkB F9.out.2.2.2.2 x2; have RDB := hid (RDA.out.kp hkB); have HAB := hid (HAA.out.kp hkB); have KB := hid hkB; clear hkB)
      | (go_at_call 30; go_must (refine (stayed_any gd _ a1.args _ RDB.out HAB.out).mono ?_); rintro e UC ⟨rfl, hkC⟩))
    go_ret
    exact ⟨rfl, ((KWD.out.trans KDA.out).trans KB.out).trans hkC⟩
  · have d0 : decide (0 < a0.length) = false := decide_eq_false hn
    go_quiet (fail)
    have HKQ := hid ((Kp.refl U9).drewN nq)
    generalize U9.drewN nq = WQ at HKQ ⊢
    have XF9' := hid (callsXKp XF9.out HKQ.out)
    have KD9' := hid (KD9.out.trans HKQ.out)
    have sq := HKQ.out.le
    clear KD9 KW9 XF9 XG9 XG8 XF8
    go_wp2_with fail
    have hc := scribbleCalls_sc _ a0.length WQ U5a.heap.size U6.heap.size XF9'.out hl3 (by omega) BF.out
    refine hc.mono ?_; clear hc
    rintro e UA ⟨rfl, hsA⟩
    have KDA := hid (show Kp UD UA from Below.trans KD9'.out (Below.mono hsA.below (by omega)))
    have hzD : u1.heap.size < UD.heap.size := by rw [HSD.out]; exact hu2
    have c2 := cell_kp KDA.out hzD D2.out
    have F9 := hid ((F1.out.kp KD.out).kp KDA.out)
    obtain ⟨_, _, x2, _, _⟩ := F9.out
    have RMA := hid (RM.out.kp KDA.out); have RDA := hid (RD.out.kp KDA.out)
    have HLA := hid (HL.out.kp (KWD.out.trans KDA.out)); have HAA := hid (HA.out.kp (KWD.out.trans KDA.out))
    clear hsA
    go_wp2_with (first
      | (go_at_call 29; go_must (refine (stayedCalls_any g _ a0 _ RMA.out HLA.out hl5).mono ?_); rintro e UB ⟨rfl, hkB⟩; have c2' := cell_kp hkB (Nat.lt_of_lt_of_le hzD KDA.out.le) c2; have x2' := cell_kp hkB F9.out.2.2.2.2 x2; have RDB := hid (RDA.out.kp hkB); have HAB := hid (HAA.out.kp hkB); have KB := hid hkB; clear hkB)
      | (go_at_call 30; go_must (refine (stayed_any gd _ a1.args _ RDB.out HAB.out).mono ?_); rintro e UC ⟨rfl, hkC⟩))
    go_ret
    exact ⟨rfl, ((KWD.out.trans KDA.out).trans KB.out).trans hkC⟩

/-! ### The row's step (the guide's frame, written by program) -/
set_option maxRecDepth 100000 in
theorem lifted (os : Os) (started : os.Started) (H : Type) (enc : TypeId × Value → H) :
    ReturnsInHanded {} Try.checked os 7 .any (Rows.defersMemorySpec.pre6 enc Try.prog Try.f7 Rows.defersMemoryRow.domain false) (Rows.defersMemorySpec.post enc Try.prog Try.f7 false true false false) := by
  refine returnsInHanded_of_change_sized (C := Try.checked) own started (by kernel_rfl) Try.func7
    (ChangeSpec.witness6 (enc := enc) (C := Try.checked) false ⟨#[], #[.slice none 0 0, .agg #[.int .i64 0, .int .i64 0, .slice none 0 0]], []⟩ 8 (by kernel_rfl) (by kernel_rfl) (by kernel_rfl) (by kernel_rfl)) ?_
  intro W base args ds gs before hval0 hW _ hsz0 _
  have hsz : (DataW.weightsEach Try.prog (Try.f7.params.toList ++ Rows.defersMemorySpec.plain.varTypes Try.prog) (ds ++ gs)).all (· ≤ reachBytes) = true := hsz0
  clear hsz0
  have hval : ∀ (j : Nat) t v, Try.f7.params[j]? = some t → args[j]? = some v → Value.okWide Try.prog W .any base t v := hval0
  have hW' := hW
  obtain ⟨p, q, hA0, hV, rfl, hfz, hnd⟩ := hW
  have hA : DataW.TrodAll enc Try.prog W 0 (fun _ => true) true Try.f7.params.toList args.toList ds p := hA0
  rw [Try.params7] at hA hval hsz
  obtain ⟨v0, vs0, d0, ds0, p0, q0, hargs, rfl, rfl, h0, r0⟩ := trodAll_cons hA
  obtain ⟨v1, vs1, d1, ds1, p1, q1, rfl, rfl, rfl, h1, r1⟩ := trodAll_cons r0
  obtain ⟨rfl, rfl, rfl⟩ := trodAll_nil r1
  obtain rfl : args = #[v0, v1] := by cases args; simp_all
  obtain ⟨rfl, rfl⟩ := trodVars_none hV
  have k0 := h0
  have lt0 : ∀ x ∈ p0, x.block < W.heap.size := by obtain ⟨m, hm⟩ := k0; exact DataW.trod_lt m _ _ _ hm
  have hz0 : ∀ n ∈ DataW.weights Try.prog 22 d0, n ≤ reachBytes := fun n hn => by
    have := List.all_eq_true.1 hsz _ (DataW.weights_mem_each (j := 0) rfl rfl n hn)
    simpa using this
  obtain ⟨a0, w0⟩ := open_calls (hval 0 22 v0 rfl rfl) h0 hz0
  have k1 := h1
  have lt1 : ∀ x ∈ p1, x.block < W.heap.size := by obtain ⟨m, hm⟩ := k1; exact DataW.trod_lt m _ _ _ hm
  have hz1 : ∀ n ∈ DataW.weights Try.prog 25 d1, n ≤ reachBytes := fun n hn => by
    have := List.all_eq_true.1 hsz _ (DataW.weights_mem_each (j := 1) rfl rfl n hn)
    simpa using this
  obtain ⟨a1, w1⟩ := open_call (hval 1 25 v1 rfl rfl) h1 hz1
  clear hA0 hval0
  simp only [List.append_nil] at hW'
  refine (walk v0 a0 v1 a1 W w0 w1).mono fun e W' ⟨he, bel⟩ => ?_
  subst he
  exact ⟨_, rfl, _, _, _, [], _, [], hW', trodAll_mk1 (shut_bool Try.underlying4 _), (trodAll_cons_mk (Below.trod laidOut (by kernel_rfl) (of_decide_eq_true (by kernel_rfl)) k0 bel lt0) (trodAll_cons_mk (Below.trod laidOut (by kernel_rfl) (of_decide_eq_true (by kernel_rfl)) k1 bel lt1) trodAll_mk0)), rfl, Below.frame bel _, fun h => by cases h⟩

theorem over : Rows.defersMemoryRow.holds Try.pinned (OpenSpec.ofChange Rows.defersMemorySpec) :=
  OpenClaim.holds_of_wide 7 Try.f7 rfl rfl rfl rfl rfl rfl rfl ⟨rfl, rfl, rfl, rfl, rfl⟩ rfl rfl rfl rfl rfl (by kernel_rfl) Try.func7 (by kernel_rfl)
    (of_decide_eq_true (by kernel_rfl)) (by unfold Func.isWrapper; rw [if_neg (of_decide_eq_false (by kernel_rfl))]; exact ⟨rfl, rfl⟩)
    (fun os started H enc _ => lifted os started H enc)

/-- THE STATEMENT. -/
theorem proved : Rows.DefersMemorySaid := over
#print axioms proved

end Go.Proofs.Ytmcidhjcimjeiaa.defersMemory
