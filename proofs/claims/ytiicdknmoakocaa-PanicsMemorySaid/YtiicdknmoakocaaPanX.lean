/-
  Package panics: Step, Begin. Condition: what is told, and the numbers, stay small.
-/
import Derived.Test.YtiicdknmoakocaaPanW
namespace Go.Proofs.Ytiicdknmoakocaa
open Go.RowKit
set_option linter.unusedVariables false
set_option linter.unusedSimpArgs false

def evCells (e : EventM) (lv : Value) : Array Value := #[.int .i64 e.kind, .int .i64 e.n, .int .i64 e.v.k, .int .i64 e.v.n, .string e.v.s, lv]
def EvBox (w : World) (b : Nat) (e : EventM) (lv : Value) : Prop := w.heap[b]? = some (.cells (evCells e lv) 27 (0, 0))
theorem EvBox.kp {w w' : World} {b : Nat} {e : EventM} {lv : Value} (h : EvBox w b e lv) (hk : Kp w w') : EvBox w' b e lv := (hk.block b (blk_lt h)).trans h
theorem EvBox.cells {w : World} {b : Nat} {e : EventM} {lv : Value} (h : EvBox w b e lv) : w.cell? ⟨b, 0, none⟩ = some (.int .i64 e.kind) ∧ w.cell? ⟨b, 1, none⟩ = some (.int .i64 e.n) ∧ w.cell? ⟨b, 2, none⟩ = some (.int .i64 e.v.k) ∧ w.cell? ⟨b, 3, none⟩ = some (.int .i64 e.v.n) ∧ w.cell? ⟨b, 4, none⟩ = some (.string e.v.s) ∧ w.cell? ⟨b, 5, none⟩ = some lv := ⟨blk_cell h rfl, blk_cell h rfl, blk_cell h rfl, blk_cell h rfl, blk_cell h rfl, blk_cell h rfl⟩
theorem StBox.below {w w' : World} {B b : Nat} {fv pv : Value} {m : StateM} (h : StBox w b fv pv m) (hk : Below B w w') (hb : b < B) : StBox w' b fv pv m := (hk.block b hb).trans h
/-- The numbers of a state. -/
def numS (R : PlM) : StateM := ⟨[], [], R.next, R.ser, R.en, R.stat⟩
def StepPost (w : World) (R : PlM) (e' : Ending) (w' : World) : Prop := (∃ fv pv tv, e' = .returned (.tuple #[.agg #[fv, pv, .int .i64 R.next, .int .i64 R.ser, .int .i64 R.en, .int .i64 R.stat], tv, .int .i64 0]) ∧ StOwn w' w.heap.size fv pv R ∧ TdRow w' w.heap.size tv R.told) ∧ Kp w w'
structure BdS (m : StateM) : Prop where
  n0 : 0 ≤ m.next
  n1 : m.next ≤ 600000000
  s0 : 0 ≤ m.serial
  s1 : m.serial ≤ 600000000
  df : ∀ f ∈ m.frames, f.defers.length ≤ 800000
theorem bd_of {m : StateM} (h : BdS m) (ho : OkSt m) : Bd (stM m) := ⟨by show m.frames.reverse.length ≤ 30; rw [List.length_reverse]; exact ho.fl, Nat.zero_le _, h.n0, by have := h.n1; show m.next ≤ _; omega, h.s0, by have := h.s1; show m.serial ≤ _; omega, by show m.panics.reverse.length ≤ _; rw [List.length_reverse]; have := ho.pl; omega⟩
/-- The result's box, written. -/
theorem stepEnd {w u : World} {pb br : Nat} {fv pv tv : Value} {fv0 pv0 : Value} {m0 : StateM} {R : PlM} (hp : Pl u (w.heap.size + 3) pb fv pv tv R) (hb : StBox u br fv0 pv0 m0) (hk : Kp w u) (hbr : w.heap.size ≤ br) :
    Pl ((((((u.setCell ⟨br, 0, none⟩ fv).setCell ⟨br, 1, none⟩ pv).setCell ⟨br, 2, none⟩ (.int .i64 R.next)).setCell ⟨br, 3, none⟩ (.int .i64 R.ser)).setCell ⟨br, 4, none⟩ (.int .i64 R.en)).setCell ⟨br, 5, none⟩ (.int .i64 R.stat)) (w.heap.size + 3) pb fv pv tv R ∧ StBox ((((((u.setCell ⟨br, 0, none⟩ fv).setCell ⟨br, 1, none⟩ pv).setCell ⟨br, 2, none⟩ (.int .i64 R.next)).setCell ⟨br, 3, none⟩ (.int .i64 R.ser)).setCell ⟨br, 4, none⟩ (.int .i64 R.en)).setCell ⟨br, 5, none⟩ (.int .i64 R.stat)) br fv pv (numS R) ∧ Kp w ((((((u.setCell ⟨br, 0, none⟩ fv).setCell ⟨br, 1, none⟩ pv).setCell ⟨br, 2, none⟩ (.int .i64 R.next)).setCell ⟨br, 3, none⟩ (.int .i64 R.ser)).setCell ⟨br, 4, none⟩ (.int .i64 R.en)).setCell ⟨br, 5, none⟩ (.int .i64 R.stat)) := by
  have ht : Touch 36 u ((((((u.setCell ⟨br, 0, none⟩ fv).setCell ⟨br, 1, none⟩ pv).setCell ⟨br, 2, none⟩ (.int .i64 R.next)).setCell ⟨br, 3, none⟩ (.int .i64 R.ser)).setCell ⟨br, 4, none⟩ (.int .i64 R.en)).setCell ⟨br, 5, none⟩ (.int .i64 R.stat)) :=
    (((((rowTouch hb _).trans (rowTouch (blk_set hb _) _)).trans (rowTouch (blk_set (blk_set hb _) _) _)).trans (rowTouch (blk_set (blk_set (blk_set hb _) _) _) _)).trans (rowTouch (blk_set (blk_set (blk_set (blk_set hb _) _) _) _) _)).trans (rowTouch (blk_set (blk_set (blk_set (blk_set (blk_set hb _) _) _) _) _) _)
  refine ⟨⟨hp.blkT ht (by decide), hp.ge, hp.fr.touch ht (by decide) (by decide), hp.pn.touch ht (by decide), hp.td.touch ht (by decide), hp.ok⟩, blk_set (blk_set (blk_set (blk_set (blk_set (blk_set hb _) _) _) _) _) _, ?_⟩
  exact (((((hk.setCell (p := ⟨br, 0, none⟩) hbr _).setCell (p := ⟨br, 1, none⟩) hbr _).setCell (p := ⟨br, 2, none⟩) hbr _).setCell (p := ⟨br, 3, none⟩) hbr _).setCell (p := ⟨br, 4, none⟩) hbr _).setCell (p := ⟨br, 5, none⟩) hbr _
set_option maxRecDepth 20000 in
set_option maxHeartbeats 4000000 in
theorem step_any (w : World) (vs ve : Value) (m : StateM) (e : EventM) (hs : RdState w vs m) (ho : OkSt m) (hv : RdEvent w ve e) (he : okEv e) (hR : Runs (stM m)) (hb : BdS m) : Calls Try.prog 11 #[vs, ve] w (StepPost w (eventM (stM m) e)) := by
  obtain ⟨lf, lp, rfl, hf, hfl, hp, hpl, n0, n1, n2, n3⟩ := hs
  obtain ⟨lv, rfl, v0, v1, v2, v3, v4, v5, v6⟩ := hv
  have HF := hid hf; have HP := hid hp; have HV := hid v2; have HO := hid ho; have HE := hid he; have HRR := hid hR; have HBB := hid hb
  have HNN := hid (show okI m.next ∧ okI m.serial ∧ okI m.end_ ∧ okI m.status from ⟨n0, n1, n2, n3⟩)
  have HVV := hid (show okI e.kind ∧ okI e.n ∧ okI e.v.k ∧ okI e.v.n ∧ e.v.s.size ≤ 140737488351232 ∧ e.v.l.length * 8 ≤ 140737488351232 from ⟨v0, v1, v3, v4, v5, v6⟩)
  have HFL := hid hfl; have HPL := hid hpl
  obtain ⟨Af, cf, rfl, hcf⟩ := hf.form
  obtain ⟨Ap, cp, rfl, hcp⟩ := hp.form
  obtain ⟨Av, cv, rfl⟩ := v2.form
  have hen : m.end_ = 0 := hR.en0
  have t0 : (m.end_ != 0) = false := by simp [hen]
  have hne : 0 < m.frames.length := by
    have := hR.ne
    cases hq : m.frames with
    | nil => exact absurd (show (stM m).fr = [] by show m.frames.reverse = []; rw [hq]; rfl) this
    | cons a b => simp
  have t1 : ((m.frames.length : Int) == 0) = false := by rw [beq_eq_false_iff_ne]; omega
  clear hf hp v2 ho he hR hb n0 n1 n2 n3 v0 v1 v3 v4 v5 v6 hen hne hfl hpl
  obtain ⟨C1, hC1⟩ : ∃ C1, C1 = Obj.cells #[.slice Af m.frames.length cf, .slice Ap m.panics.length cp, .int .i64 m.next, .int .i64 m.serial, .int .i64 m.end_, .int .i64 m.status] 36 := ⟨_, rfl⟩
  obtain ⟨C2, hC2⟩ : ∃ C2, C2 = Obj.cells #[.int .i64 e.kind, .int .i64 e.n, .int .i64 e.v.k, .int .i64 e.v.n, .string e.v.s, .slice Av e.v.l.length cv] 27 := ⟨_, rfl⟩
  obtain ⟨C3, hC3⟩ : ∃ C3, C3 = Obj.cells #[.slice none 0 0, .slice none 0 0, .int .i64 0, .int .i64 0, .int .i64 0, .int .i64 0] 36 := ⟨_, rfl⟩
  have HB1 := hid (show StBox (((w.alloc C1).alloc C2).alloc C3) w.heap.size (.slice Af m.frames.length cf) (.slice Ap m.panics.length cp) m from by rw [hC1]; exact blk_old (blk_old (blk_new _ _) _) _)
  have HB2 := hid (show EvBox (((w.alloc C1).alloc C2).alloc C3) (w.heap.size + 1) e (.slice Av e.v.l.length cv) from by rw [hC2]; exact blk_old (blk_new2 _ _ _) _)
  have HB3 := hid (show StBox (((w.alloc C1).alloc C2).alloc C3) (w.heap.size + 1 + 1) (.slice none 0 0) (.slice none 0 0) zSt from by
    have e : ((w.alloc C1).alloc C2).heap.size = w.heap.size + 1 + 1 := by simp
    rw [hC3, ← e]; exact blk_new _ _)
  have HK := hid (show Kp w (((w.alloc C1).alloc C2).alloc C3) from (((Kp.refl w).alloc _).alloc _).alloc _)
  have HZ := hid (show (((w.alloc C1).alloc C2).alloc C3).heap.size = w.heap.size + 3 by simp)
  rw [hC1, hC2, hC3] at HB1 HB2 HB3 HK HZ
  clear hC1 hC2 hC3
  go_enter Try.func11, Try.ntmps11
  go_wp2_with fail
  generalize (((w.alloc (Obj.cells #[.slice Af m.frames.length cf, .slice Ap m.panics.length cp, .int .i64 m.next, .int .i64 m.serial, .int .i64 m.end_, .int .i64 m.status] 36)).alloc (Obj.cells #[.int .i64 e.kind, .int .i64 e.n, .int .i64 e.v.k, .int .i64 e.v.n, .string e.v.s, .slice Av e.v.l.length cv] 27)).alloc (Obj.cells #[.slice none 0 0, .slice none 0 0, .int .i64 0, .int .i64 0, .int .i64 0, .int .i64 0] 36)) = W1 at HB1 HB2 HB3 HK HZ ⊢
  have hc := copied_any _ m W1 ⟨_, _, rfl, HF.out.kp CeFrame.kp HK.out, HFL.out, HP.out.kp CePanic.kp HK.out, HPL.out, HNN.out⟩ HO.out
  refine hc.mono ?_; clear hc
  rintro e' w2 ⟨⟨fv, pv, rfl, hst⟩, hk2⟩
  rw [HZ.out] at hst
  have HST := hid hst
  obtain ⟨A2, c2, rfl, _⟩ := hst.1.len
  obtain ⟨A3, c3, rfl, _⟩ := hst.2.1.len
  have HK2 := hid hk2
  have hsz : w.heap.size + 3 ≤ w2.heap.size := by rw [← HZ.out]; exact hk2.le
  clear hst hk2
  obtain ⟨PC, hPC⟩ : ∃ PC, PC = Obj.cells #[.slice A2 (stM m).fr.length c2, .slice A3 (stM m).pn.length c3, .int .i64 m.next, .int .i64 m.serial, .int .i64 m.end_, .int .i64 m.status, .slice none 0 0] 82 := ⟨_, rfl⟩
  have HPP := hid (show Player (w2.alloc PC) (w.heap.size + 3) w2.heap.size (stM m) from by
    rw [hPC]
    have hk := (Kp.refl w2).alloc (Obj.cells #[.slice A2 (stM m).fr.length c2, .slice A3 (stM m).pn.length c3, .int .i64 m.next, .int .i64 m.serial, .int .i64 m.end_, .int .i64 m.status, .slice none 0 0] 82)
    exact ⟨_, _, _, blk_new _ _, hsz, HST.out.1.kp hk, HST.out.2.1.kp hk, OwnL.nil _ _ _ _ _, HST.out.2.2⟩)
  have HC1 := hid ((HB1.out.kp HK2.out).kp ((Kp.refl w2).alloc PC)); have HC2 := hid ((HB2.out.kp HK2.out).kp ((Kp.refl w2).alloc PC)); have HC3 := hid ((HB3.out.kp HK2.out).kp ((Kp.refl w2).alloc PC))
  have HKA := hid ((HK.out.trans HK2.out).trans ((Kp.refl w2).alloc PC))
  have HVA := hid (show RdEvent (w2.alloc PC) (.agg #[.int .i64 e.kind, .int .i64 e.n, .int .i64 e.v.k, .int .i64 e.v.n, .string e.v.s, .slice Av e.v.l.length cv]) e from ⟨_, rfl, HVV.out.1, HVV.out.2.1, HV.out.kp HKA.out, HVV.out.2.2.1, HVV.out.2.2.2.1, HVV.out.2.2.2.2.1, HVV.out.2.2.2.2.2⟩)
  obtain ⟨q0, q1, q2, q3, q4, q5⟩ := HC2.out.cells
  rw [hPC] at HPP HC1 HC2 HC3 HKA HVA q0 q1 q2 q3 q4 q5
  clear hPC
  go_wp2_with fail
  clear q0 q1 q2 q3 q4 q5
  generalize (w2.alloc (Obj.cells #[.slice A2 (stM m).fr.length c2, .slice A3 (stM m).pn.length c3, .int .i64 m.next, .int .i64 m.serial, .int .i64 m.end_, .int .i64 m.status, .slice none 0 0] 82)) = W3 at HPP HC1 HC2 HC3 HKA HVA ⊢
  have hc := event_any W3 (w.heap.size + 3) w2.heap.size (stM m) _ e HPP.out HVA.out HE.out (bd_of HBB.out HO.out) HRR.out (fun f hf => Nat.le_trans (HBB.out.df f (List.mem_reverse.1 hf)) (by omega))
  obtain ⟨R, hR⟩ : ∃ R, eventM (stM m) e = R := ⟨_, rfl⟩
  rw [hR] at hc
  have HR := hid hR
  clear hR
  refine hc.mono ?_; clear hc
  rintro e' w4 ⟨rfl, hp4, hb4⟩
  obtain ⟨fv4, pv4, tv4, hpl4⟩ := hp4
  obtain ⟨A4, c4, rfl, _⟩ := hpl4.fr.len
  obtain ⟨A5, c5, rfl, _⟩ := hpl4.pn.len
  obtain ⟨A6, c6, rfl, _⟩ := hpl4.td.len
  have H4 := hid hpl4
  have HD3 := hid (HC3.out.below hb4 (by omega))
  have HK4 := hid (show Kp w w4 from Below.trans HKA.out (Below.mono hb4 (by omega)))
  clear hpl4 hb4
  go_wp2
  refine wp_region_phase [8] [(0, 0), (0, 0), (0, 0), (0, 0), (0, 1), (0, 1), (0, 1), (0, 1), (0, 0), (0, 1), (0, 1)] (fun _ _ => True) [[], [0], [1], [2], [], [4], [5], [6], [3], [7], []]
    (fun (p : Nat) (x : Nat → Value) (u : World) => match p with | 0 => Kp w4 u | _ => Pl u (w.heap.size + 3) w2.heap.size (.slice A4 R.fr.length c4) (.slice A5 R.pn.length c5) (.slice A6 R.told.length c6) R ∧ StBox u (w.heap.size + 1 + 1) (.slice A4 R.fr.length c4) (.slice A5 R.pn.length c5) (numS R) ∧ Kp w u)
    [fun (y : Value) (u : World) => y = (.pointer (some ⟨w2.heap.size, 0, none⟩) : Value),
     fun (y : Value) (u : World) => y = (.pointer (some ⟨w2.heap.size, 0, none⟩) : Value),
     fun (y : Value) (u : World) => y = (.pointer (some ⟨w2.heap.size, 0, none⟩) : Value),
     fun (y : Value) (u : World) => y = (.agg #[.slice A4 R.fr.length c4, .slice A5 R.pn.length c5, .int .i64 R.next, .int .i64 R.ser, .int .i64 R.en, .int .i64 R.stat] : Value),
     fun (y : Value) (u : World) => y = (.pointer (some ⟨w2.heap.size, 0, none⟩) : Value),
     fun (y : Value) (u : World) => y = (.pointer (some ⟨w2.heap.size, 0, none⟩) : Value),
     fun (y : Value) (u : World) => y = (.pointer (some ⟨w2.heap.size, 6, none⟩) : Value),
     fun (y : Value) (u : World) => y = (.slice A6 R.told.length c6 : Value),
     fun (y : Value) (u : World) => True,
     fun (y : Value) (u : World) => y = (.slice A6 R.told.length c6 : Value),
     fun (y : Value) (u : World) => y = (.int .i64 0 : Value)]
    (by kernel_rfl) (by kernel_rfl) (by kernel_rfl) (by kernel_rfl) (by kernel_rfl) (by kernel_rfl) (fun _ _ _ => trivial) ((Kp.refl _).drew) ?hKb ?hXb ⟨fun _ _ _ _ h => h, fun _ _ _ _ h => h, fun _ _ _ _ h => h, fun _ _ _ _ h => h, fun _ _ _ _ h => h, fun _ _ _ _ h => h, fun _ _ _ _ h => h, fun _ _ _ _ h => h, fun _ _ _ _ _ => trivial, fun _ _ _ _ h => h, fun _ _ _ _ h => h, trivial⟩ ⟨?sb0, ?sb1, ?sb2, ?sb3, ?sb4, ?sb5, ?sb6, ?sb7, ?sb8, ?sb9, ?sb10, trivial⟩ ?hEb
  case hKb =>
    intro p x w w' hk h
    rcases p with _ | p
    · exact h.trans hk
    · exact ⟨h.1.kp hk, h.2.1.kp hk, h.2.2.trans hk⟩
  case hXb =>
    intro p x i v w hi h
    have e0 : upd x i v 8 = x 8 := if_neg (fun hh => hi (by rw [← hh]; decide))
    rcases p with _ | p
    · first | exact h | (simp only [e0]; exact h)
    · first | exact h | (simp only [e0]; exact h)
  case sb0 =>
    refine OpStepQ.off 0 0 (by kernel_rfl) (by kernel_rfl) ?_
    intro x u p hp hg hd K hK
    obtain rfl : p = 0 := by omega
    change Kp w4 u at hg
    clear hd
    refine ⟨?_⟩
    simp only [putsFrom, Act.put, List.setIfInBounds_toArray, List.set_cons_zero, List.set_cons_succ, Nat.reduceAdd] at hK ⊢
    go_simp
    exact hK.out _ _ (Kp.refl _) rfl
  case sb1 =>
    refine OpStepQ.off 0 0 (by kernel_rfl) (by kernel_rfl) ?_
    intro x u p hp hg hd K hK
    obtain rfl : p = 0 := by omega
    change Kp w4 u at hg
    have d0 : (x 0) = .pointer (some ⟨w2.heap.size, 0, none⟩) := And.left hd
    clear hd
    refine ⟨?_⟩
    simp only [putsFrom, Act.put, List.setIfInBounds_toArray, List.set_cons_zero, List.set_cons_succ, Nat.reduceAdd, d0] at hK ⊢
    go_simp
    exact hK.out _ _ (Kp.refl _) rfl
  case sb2 =>
    refine OpStepQ.off 0 0 (by kernel_rfl) (by kernel_rfl) ?_
    intro x u p hp hg hd K hK
    obtain rfl : p = 0 := by omega
    change Kp w4 u at hg
    have d1 : (x 1) = .pointer (some ⟨w2.heap.size, 0, none⟩) := And.left hd
    clear hd
    refine ⟨?_⟩
    simp only [putsFrom, Act.put, List.setIfInBounds_toArray, List.set_cons_zero, List.set_cons_succ, Nat.reduceAdd, d1] at hK ⊢
    go_simp
    exact hK.out _ _ (Kp.refl _) rfl
  case sb3 =>
    refine OpStepQ.off 0 0 (by kernel_rfl) (by kernel_rfl) ?_
    intro x u p hp hg hd K hK
    obtain rfl : p = 0 := by omega
    change Kp w4 u at hg
    have d2 : (x 2) = .pointer (some ⟨w2.heap.size, 0, none⟩) := And.left hd
    clear hd
    have q0 := (H4.out.kp hg).c0
    have q1 := (H4.out.kp hg).c1
    have q2 := (H4.out.kp hg).c2
    have q3 := (H4.out.kp hg).c3
    have q4 := (H4.out.kp hg).c4
    have q5 := (H4.out.kp hg).c5
    refine ⟨?_⟩
    simp only [putsFrom, Act.put, List.setIfInBounds_toArray, List.set_cons_zero, List.set_cons_succ, Nat.reduceAdd, d2] at hK ⊢
    go_simp
    exact hK.out _ _ (Kp.refl _) rfl
  case sb4 =>
    refine OpStepQ.off 0 1 (by kernel_rfl) (by kernel_rfl) ?_
    intro x u p hp hg hd K hK
    clear hd
    refine ⟨?_⟩
    simp only [putsFrom, Act.put, List.setIfInBounds_toArray, List.set_cons_zero, List.set_cons_succ, Nat.reduceAdd] at hK ⊢
    go_simp
    exact hK.out _ _ (Kp.refl _) rfl
  case sb5 =>
    refine OpStepQ.off 0 1 (by kernel_rfl) (by kernel_rfl) ?_
    intro x u p hp hg hd K hK
    have d4 : (x 4) = .pointer (some ⟨w2.heap.size, 0, none⟩) := And.left hd
    clear hd
    refine ⟨?_⟩
    simp only [putsFrom, Act.put, List.setIfInBounds_toArray, List.set_cons_zero, List.set_cons_succ, Nat.reduceAdd, d4] at hK ⊢
    go_simp
    exact hK.out _ _ (Kp.refl _) rfl
  case sb6 =>
    refine OpStepQ.off 0 1 (by kernel_rfl) (by kernel_rfl) ?_
    intro x u p hp hg hd K hK
    have d5 : (x 5) = .pointer (some ⟨w2.heap.size, 0, none⟩) := And.left hd
    clear hd
    refine ⟨?_⟩
    simp only [putsFrom, Act.put, List.setIfInBounds_toArray, List.set_cons_zero, List.set_cons_succ, Nat.reduceAdd, d5] at hK ⊢
    go_simp
    exact hK.out _ _ (Kp.refl _) rfl
  case sb7 =>
    refine OpStepQ.off 0 1 (by kernel_rfl) (by kernel_rfl) ?_
    intro x u p hp hg hd K hK
    have d6 : (x 6) = .pointer (some ⟨w2.heap.size, 6, none⟩) := And.left hd
    clear hd
    have q6 : u.cell? ⟨w2.heap.size, 6, none⟩ = some (.slice A6 R.told.length c6) := by
      rcases p with _ | p
      · exact (H4.out.kp hg).c6
      · exact hg.1.c6
    refine ⟨?_⟩
    simp only [putsFrom, Act.put, List.setIfInBounds_toArray, List.set_cons_zero, List.set_cons_succ, Nat.reduceAdd, d6] at hK ⊢
    go_simp
    exact hK.out _ _ (Kp.refl _) rfl
  case sb8 =>
    refine OpStepQ.on 0 (by kernel_rfl) (by kernel_rfl) ?_
    intro x u hg hd K hK
    change Kp w4 u at hg
    have d3 : (x 3) = .agg #[.slice A4 R.fr.length c4, .slice A5 R.pn.length c5, .int .i64 R.next, .int .i64 R.ser, .int .i64 R.en, .int .i64 R.stat] := And.left hd
    clear hd
    have hpu := H4.out.kp hg
    have hbu := HD3.out.kp hg
    obtain ⟨b0, b1, b2, b3, b4, b5, bf⟩ := hbu.cells
    have HPU := hid hpu
    have HBU := hid hbu
    have HG := hid hg
    clear hpu hbu
    refine ⟨?_⟩
    simp only [putsFrom, Act.put, List.setIfInBounds_toArray, List.set_cons_zero, List.set_cons_succ, Nat.reduceAdd, d3] at hK ⊢
    go_simp
    exact hK.out undef _ trivial (stepEnd HPU.out HBU.out (HK4.out.trans HG.out) (by omega)) trivial
  case sb9 =>
    refine OpStepQ.off 0 1 (by kernel_rfl) (by kernel_rfl) ?_
    intro x u p hp hg hd K hK
    have d7 : (x 7) = .slice A6 R.told.length c6 := And.left hd
    clear hd
    refine ⟨?_⟩
    simp only [putsFrom, Act.put, List.setIfInBounds_toArray, List.set_cons_zero, List.set_cons_succ, Nat.reduceAdd, d7] at hK ⊢
    go_simp
    exact hK.out _ _ (Kp.refl _) rfl
  case sb10 =>
    refine OpStepQ.off 0 1 (by kernel_rfl) (by kernel_rfl) ?_
    intro x u p hp hg hd K hK
    clear hd
    refine ⟨?_⟩
    simp only [putsFrom, Act.put, List.setIfInBounds_toArray, List.set_cons_zero, List.set_cons_succ, Nat.reduceAdd] at hK ⊢
    go_simp
    exact hK.out _ _ (Kp.refl _) rfl
  intro x u hg he
  have d0 : (x 0) = .pointer (some ⟨w2.heap.size, 0, none⟩) := And.left he
  have d1 : (x 1) = .pointer (some ⟨w2.heap.size, 0, none⟩) := And.left (And.right he)
  have d2 : (x 2) = .pointer (some ⟨w2.heap.size, 0, none⟩) := And.left (And.right (And.right he))
  have d3 : (x 3) = .agg #[.slice A4 R.fr.length c4, .slice A5 R.pn.length c5, .int .i64 R.next, .int .i64 R.ser, .int .i64 R.en, .int .i64 R.stat] := And.left (And.right (And.right (And.right he)))
  have d4 : (x 4) = .pointer (some ⟨w2.heap.size, 0, none⟩) := And.left (And.right (And.right (And.right (And.right he))))
  have d5 : (x 5) = .pointer (some ⟨w2.heap.size, 0, none⟩) := And.left (And.right (And.right (And.right (And.right (And.right he)))))
  have d6 : (x 6) = .pointer (some ⟨w2.heap.size, 6, none⟩) := And.left (And.right (And.right (And.right (And.right (And.right (And.right he))))))
  have d7 : (x 7) = .slice A6 R.told.length c6 := And.left (And.right (And.right (And.right (And.right (And.right (And.right (And.right he)))))))
  have d9 : (x 9) = .slice A6 R.told.length c6 := And.left (And.right (And.right (And.right (And.right (And.right (And.right (And.right (And.right (And.right he)))))))))
  have d10 : (x 10) = .int .i64 0 := And.left (And.right (And.right (And.right (And.right (And.right (And.right (And.right (And.right (And.right (And.right he))))))))))
  clear he
  change Pl u (w.heap.size + 3) w2.heap.size (.slice A4 R.fr.length c4) (.slice A5 R.pn.length c5) (.slice A6 R.told.length c6) R ∧ StBox u (w.heap.size + 1 + 1) (.slice A4 R.fr.length c4) (.slice A5 R.pn.length c5) (numS R) ∧ Kp w u at hg
  refine ⟨?_⟩
  simp only [putsFrom, Act.put, List.setIfInBounds_toArray, List.set_cons_zero, List.set_cons_succ, Nat.reduceAdd, d0, d1, d2, d3, d4, d5, d6, d7, d9, d10]
  clear d0 d1 d2 d3 d4 d5 d6 d7 d9 d10
  obtain ⟨hpe, hbe, hke⟩ := hg
  have HPE := hid hpe; have HBE := hid hbe; have HKE := hid hke
  clear hpe hbe hke
  go_wp2
  obtain ⟨a0, a1, a2, a3, a4, a5, _⟩ := HBE.out.cells
  exact bodyPost_ret (v := .tuple #[.agg #[.slice A4 R.fr.length c4, .slice A5 R.pn.length c5, .int .i64 R.next, .int .i64 R.ser, .int .i64 R.en, .int .i64 R.stat], .slice A6 R.told.length c6, .int .i64 0]) (by simp [results, Try.results11, go_sem, a0, a1, a2, a3, a4, a5, numS]) rfl (by
    rw [HR.out]
    exact ⟨⟨_, _, _, rfl, ⟨HPE.out.fr.base (Nat.le_add_right _ _), OwnL.base_ (Nat.le_add_right _ _) HPE.out.pn, HPE.out.ok⟩, OwnL.base_ (Nat.le_add_right _ _) HPE.out.td⟩, HKE.out⟩)
/-- A state that has ended is not stepped. -/
theorem step_over (w : World) (vs ve : Value) (m : StateM) (e : EventM) (hs : RdState w vs m) (hv : RdEvent w ve e) (he : m.end_ ≠ 0) : Calls Try.prog 11 #[vs, ve] w fun e' w' => e' = .returned (.tuple #[.agg #[.slice none 0 0, .slice none 0 0, .int .i64 0, .int .i64 0, .int .i64 0, .int .i64 0], .slice none 0 0, .int .i64 17]) ∧ Kp w w' := by
  obtain ⟨lf, lp, rfl, hf, _, hp, _, _⟩ := hs
  obtain ⟨lv, rfl, _, _, v2, _⟩ := hv
  obtain ⟨Af, cf, rfl, hcf⟩ := hf.form
  obtain ⟨Ap, cp, rfl, hcp⟩ := hp.form
  obtain ⟨Av, cv, rfl⟩ := v2.form
  have t0 : (m.end_ != 0) = true := by simp [he]
  clear hf hp v2 he
  go_enter Try.func11, Try.ntmps11
  go_wp2
  exact bodyPost_ret (v := .tuple #[.agg #[.slice none 0 0, .slice none 0 0, .int .i64 0, .int .i64 0, .int .i64 0, .int .i64 0], .slice none 0 0, .int .i64 17]) (by simp [results, Try.results11, go_sem]) rfl ⟨rfl, by repeat (first | exact Kp.refl _ | refine Kp.alloc ?_ _ | refine Kp.setCell ?_ (by simp; omega) _)⟩
/-- The state in which main runs. -/
def beginM : StateM := ⟨[⟨0, 0, -1, 0, []⟩], [], 1, 0, 0, 0⟩
theorem rowLit {w : World} {base g n size : Nat} {e : TypeId} {cur : Array Value} (h : w.heap[g]? = some (.cells cur e (0, 0))) (hb : base ≤ g) (hs : cur.size = n * size) (hm : n ≤ maxLen) : w.ownsRow base e size (.slice (some ⟨g, 0, none⟩) n n) n cur.toList :=
  ⟨by rw [Array.length_toList]; exact hs, .inr ⟨g, n, cur, rfl, hb, h, Nat.le_refl _, hm, hs, by rw [List.take_of_length_le (by rw [Array.length_toList]; omega)]⟩⟩
theorem begin_st (w : World) : Calls Try.prog 29 #[] w fun e' w' => (∃ fv, e' = .returned (.agg #[fv, .slice none 0 0, .int .i64 1, .int .i64 0, .int .i64 0, .int .i64 0]) ∧ StOwn w' w.heap.size fv (.slice none 0 0) (stM beginM)) ∧ Kp w w' := by
  have hz : ((w.alloc (.cells #[.slice (some ⟨w.heap.size + 1, 0, none⟩) 1 1, .slice none 0 0, .int .i64 1, .int .i64 0, .int .i64 0, .int .i64 0] 36)).alloc (.cells #[.int .i64 0, .int .i64 0, .int .i64 (-1), .int .i64 0, .slice none 0 0] 44)).heap[w.heap.size + 1]? = some (.cells #[.int .i64 0, .int .i64 0, .int .i64 (-1), .int .i64 0, .slice none 0 0] 44 (0, 0)) := blk_new2 _ _ _
  have hb : StBox ((w.alloc (.cells #[.slice (some ⟨w.heap.size + 1, 0, none⟩) 1 1, .slice none 0 0, .int .i64 1, .int .i64 0, .int .i64 0, .int .i64 0] 36)).alloc (.cells #[.int .i64 0, .int .i64 0, .int .i64 (-1), .int .i64 0, .slice none 0 0] 44)) w.heap.size (.slice (some ⟨w.heap.size + 1, 0, none⟩) 1 1) (.slice none 0 0) beginM := blk_old (blk_new _ _) _
  have HZ := hid hz; have HB := hid hb
  have HK := hid (show Kp w ((w.alloc (.cells #[.slice (some ⟨w.heap.size + 1, 0, none⟩) 1 1, .slice none 0 0, .int .i64 1, .int .i64 0, .int .i64 0, .int .i64 0] 36)).alloc (.cells #[.int .i64 0, .int .i64 0, .int .i64 (-1), .int .i64 0, .slice none 0 0] 44)) from ((Kp.refl w).alloc _).alloc _)
  clear hz hb
  go_enter Try.func29, Try.ntmps29
  go_wp2
  generalize ((w.alloc (.cells #[.slice (some ⟨w.heap.size + 1, 0, none⟩) 1 1, .slice none 0 0, .int .i64 1, .int .i64 0, .int .i64 0, .int .i64 0] 36)).alloc (.cells #[.int .i64 0, .int .i64 0, .int .i64 (-1), .int .i64 0, .slice none 0 0] 44)) = W at HZ HB HK ⊢
  have hfr : FrRow W w.heap.size (.slice (some ⟨w.heap.size + 1, 0, none⟩) 1 1) [⟨0, 0, -1, 0, []⟩] :=
    ⟨[(⟨0, 0, -1, 0, []⟩, .slice none 0 0)], rowLit HZ.out (by omega) rfl (by decide), rfl, fun x hx => by rw [List.mem_singleton] at hx; subst hx; exact OwnI.nil _ _, fun f hf => by rw [List.mem_singleton] at hf; subst hf; exact ⟨ok0, ok0, ok_small (by show (-1000 : Int) ≤ -1; decide) (by show (-1 : Int) ≤ _; decide), ok0, fun d hd => by simp at hd, by simp⟩, List.pairwise_singleton _ _⟩
  obtain ⟨a0, a1, a2, a3, a4, a5, _⟩ := HB.out.cells
  exact bodyPost_ret (v := .agg #[.slice (some ⟨w.heap.size + 1, 0, none⟩) 1 1, .slice none 0 0, .int .i64 1, .int .i64 0, .int .i64 0, .int .i64 0]) (by simp [results, Try.results29, go_sem, a0, a1, a2, a3, a4, a5, beginM]) rfl ⟨⟨_, rfl, hfr, OwnL.nil _ _ _ _ _, ok_small (by show (-1000 : Int) ≤ 1; decide) (by show (1 : Int) ≤ _; decide), ok0, ok0, ok0⟩, HK.out⟩
end Go.Proofs.Ytiicdknmoakocaa
