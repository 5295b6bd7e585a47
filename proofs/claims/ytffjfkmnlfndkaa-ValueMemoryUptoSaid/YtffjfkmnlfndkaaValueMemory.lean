/-
  The law ValueMemory answers true for all values. Condition: their bulk is at most 1048576 (the statement's own).
-/
import Derived.SizedLaws
import Derived.Deep.CondSized
import Derived.Test.YtffjfkmnlfndkaaRows
import Derived.Test.YtffjfkmnlfndkaaSeen
import Derived.Test.YtffjfkmnlfndkaaRoomy
import Derived.Test.YtffjfkmnlfndkaaBulk2
import Derived.Test.YtffjfkmnlfndkaaRegion
namespace Go.Proofs.Ytffjfkmnlfndkaa.valueMemory
open Go.ChangeShapes Go.WideShapes Go.ChangeAt Go.RowKit
open Go.ChangeMaps (open_string shut_string)
set_option linter.unusedVariables false

theorem own : ownKnob Try.prog.godebug = none := by kernel_rfl
theorem laidOut : laidOutB Try.prog = true := by kernel_rfl


theorem rd_lit_val {w : World} {m : ValM} {lv : Value} (h : RdVal w (.agg #[.int .i64 m.k, .int .i64 m.n, .string m.s, lv]) m) : RdL CeVal 4 (w.alloc (.cells #[.int .i64 m.k, .int .i64 m.n, .string m.s, lv] 53)) (.slice (some ⟨w.heap.size, 0, none⟩) 1 1) [m] := by
  obtain ⟨lv', e, h0⟩ := h.kp ((Kp.refl w).alloc (.cells #[.int .i64 m.k, .int .i64 m.n, .string m.s, lv] 53))
  simp at e
  subst e
  refine ⟨_, _, rfl, by simp, fun i a hi => ?_⟩
  have hi0 : i = 0 := by
    rcases Nat.eq_zero_or_pos i with h | h
    · exact h
    · rw [List.getElem?_eq_none (by simp; omega)] at hi; cases hi
  subst hi0
  simp only [List.getElem?_cons_zero, Option.some.injEq] at hi
  subst hi
  refine ⟨w.heap.size, 0, [.int .i64 m.k, .int .i64 m.n, .string m.s, lv], rfl, by simp, ⟨lv, rfl, h0⟩, rfl, fun j hj => ?_⟩
  rw [World.cell?_alloc_new]; simp
theorem Boxed.set3 {w : World} {b : Nat} {m : ValM} {l : Value} (h : Boxed w b m l) (v : Value) : Boxed (w.setCell ⟨b, 3, none⟩ v) b m v := by
  obtain ⟨h0, h1, h2, h3⟩ := h
  have k : ∀ (i : Nat) (u : Value), i ≠ 3 → w.cell? ⟨b, i, none⟩ = some u → (w.setCell ⟨b, 3, none⟩ v).cell? ⟨b, i, none⟩ = some u := fun i u hne h => (World.cell?_setCell_other _ _ _ _ (fun e => hne (by injection e with _ e2; exact e2.symm))).trans h
  exact ⟨k 0 _ (by omega) h0, k 1 _ (by omega) h1, k 2 _ (by omega) h2, World.cell?_setCell_same _ _ _ h3⟩
theorem Boxed.far {w : World} {b b' j : Nat} {m : ValM} {l : Value} (h : Boxed w b m l) (hne : b ≠ b') (v : Value) : Boxed (w.setCell ⟨b', j, none⟩ v) b m l :=
  ⟨cell_set_far h.1 hne v, cell_set_far h.2.1 hne v, cell_set_far h.2.2.1 hne v, cell_set_far h.2.2.2 hne v⟩
theorem Boxed.below {B : Nat} {w w' : World} {b : Nat} {m : ValM} {l : Value} (h : Boxed w b m l) (hk : Below B w w') (hb : b < B) : Boxed w' b m l := by
  unfold Boxed; rw [(below_cells hk).1 _ _ hb, (below_cells hk).1 _ _ hb, (below_cells hk).1 _ _ hb, (below_cells hk).1 _ _ hb]; exact h
abbrev HeldM (w : World) (g0 g2 g3 : Nat) (m0 m2 : ValM) (l0 l1 l2 lx : Value) (w' : World) : Prop :=
  Boxed w' g0 m0 l0 ∧ Boxed w' (g0 + 1) m0 l1 ∧ Boxed w' g2 m2 l2 ∧ w'.cell? ⟨g3, 3, none⟩ = some lx ∧ Kp w w' ∧ g0 < w'.heap.size ∧ g0 + 1 < w'.heap.size ∧ g2 < w'.heap.size ∧ g3 < w'.heap.size
theorem HeldM.kp {w w' w2 : World} {g0 g2 g3 : Nat} {m0 m2 : ValM} {l0 l1 l2 lx : Value} (h : HeldM w g0 g2 g3 m0 m2 l0 l1 l2 lx w') (hk : Kp w' w2) : HeldM w g0 g2 g3 m0 m2 l0 l1 l2 lx w2 := by
  obtain ⟨h0, h1, h2, h3, h4, h5, h6, h7, h8⟩ := h
  have := hk.le
  exact ⟨Boxed.kp h0 hk h5, Boxed.kp h1 hk h6, Boxed.kp h2 hk h7, cell_kp hk h8 h3, h4.trans hk, by omega, by omega, by omega, by omega⟩
theorem HeldM.k {w w' : World} {g0 g2 g3 : Nat} {m0 m2 : ValM} {l0 l1 l2 lx : Value} (h : HeldM w g0 g2 g3 m0 m2 l0 l1 l2 lx w') : Kp w w' := h.2.2.2.2.1
def oneM : ValM := ⟨6, 0, ⟨#[]⟩, [1]⟩
set_option maxRecDepth 20000 in
set_option maxHeartbeats 8000000 in
theorem walk (v0 : Value) (a0 : ValM) (w : World) (w0 : RdValV w v0 a0) :
    Calls Try.prog 11 #[v0] w fun e w' => e = .returned (.bool true) ∧ Kp w w' := by
  obtain ⟨w0, b0⟩ := w0
  obtain ⟨lv, rfl, hlv⟩ := id w0
  obtain ⟨A0, c0, rfl⟩ := w0.form
  have R0 := hid w0
  have HL : Hid (RdInts w (.slice A0 a0.l.length c0) a0.l) := hid hlv.1
  have HOK : Hid (okI a0.k ∧ okI a0.n ∧ a0.s.size ≤ 140737488351232 ∧ a0.l.length * 8 ≤ 140737488351232) := hid hlv.2
  have HR : Hid (∀ x ∈ a0.l, okI x) := hid hlv.1.2.1
  have hlen : a0.l.length ≤ 1048576 := by unfold bkVal at b0; omega
  have hpl := plain_len a0
  have BL : Hid (([a0].map fun m => bkVal m + 1).sum ≤ 1048576) := hid (by simpa using b0)
  have BR : Hid ((a0.l.length + 2) * 8 ≤ 140737488355328) := hid (by omega)
  have BS : Hid (((plainM a0).l.length + 3) * 8 ≤ 140737488355328) := hid (by omega)
  have N0 : Hid (a0.l.length ≤ 1000000000000) := hid (by omega)
  have hRd : ∀ (u : World) (g : Nat), RoomAt u g a0.l → RdVal u (.agg #[.int .i64 a0.k, .int .i64 a0.n, .string a0.s, .slice (some ⟨g, 0, none⟩) a0.l.length (a0.l.length + 2)]) a0 := fun u g h => ⟨_, rfl, h.rd (by omega) HR.out, HOK.out⟩
  have HRd := hid hRd
  obtain ⟨pm, hpm⟩ : ∃ p, plainM a0 = p := ⟨_, rfl⟩
  rw [hpm] at BS
  have HPM := hid hpm
  clear hlv b0 w0 hlen hpl hRd hpm
  go_enter Try.func11, Try.ntmps11
  go_wp2_with fail
  have hc := roomy_any _ a0.l _ (HL.out.kp (((Kp.refl w).alloc (.cells #[.int .i64 a0.k, .int .i64 a0.n, .string a0.s, .slice A0 a0.l.length c0] 53)).alloc (.cells #[.int .i64 a0.k, .int .i64 a0.n, .string a0.s, .slice A0 a0.l.length c0] 53))) BR.out
  refine hc.mono ?_; clear hc
  rintro e w2 ⟨⟨g, rfl, hg0, hroom⟩, hk2⟩
  obtain ⟨hc2, hf2, hz2⟩ := kp_at hk2 (w.heap.size + 2) (by simp)
  have hg0' : w.heap.size + 2 ≤ g := by simpa using hg0
  have HRoom := hid hroom; have HK2 := hid hk2
  clear hroom hk2 hg0
  go_wp2_with fail
  have T1 : Boxed (w2.setCell ⟨w.heap.size + 1, 3, none⟩ (.slice (some ⟨g, 0, none⟩) a0.l.length (a0.l.length + 2))) w.heap.size a0 (.slice A0 a0.l.length c0) :=
    Boxed.far (Boxed.kp (w := (w.alloc (.cells #[.int .i64 a0.k, .int .i64 a0.n, .string a0.s, .slice A0 a0.l.length c0] 53)).alloc (.cells #[.int .i64 a0.k, .int .i64 a0.n, .string a0.s, .slice A0 a0.l.length c0] 53)) (by simp [Boxed, go_sem, World.cell?_alloc_past]) HK2.out (by simp; omega)) (by omega) _
  have T3 : Boxed (w2.setCell ⟨w.heap.size + 1, 3, none⟩ (.slice (some ⟨g, 0, none⟩) a0.l.length (a0.l.length + 2))) (w.heap.size + 1) a0 (.slice (some ⟨g, 0, none⟩) a0.l.length (a0.l.length + 2)) :=
    Boxed.set3 (Boxed.kp (w := (w.alloc (.cells #[.int .i64 a0.k, .int .i64 a0.n, .string a0.s, .slice A0 a0.l.length c0] 53)).alloc (.cells #[.int .i64 a0.k, .int .i64 a0.n, .string a0.s, .slice A0 a0.l.length c0] 53)) (l := .slice A0 a0.l.length c0) (by simp [Boxed, go_sem]) HK2.out (by simp)) _
  have M3 := hid (HRoom.out.setCell (i := 3) (b := w.heap.size + 1) (by omega) (.slice (some ⟨g, 0, none⟩) a0.l.length (a0.l.length + 2)))
  have K3 := hid (((((Kp.refl w).alloc (.cells #[.int .i64 a0.k, .int .i64 a0.n, .string a0.s, .slice A0 a0.l.length c0] 53)).alloc (.cells #[.int .i64 a0.k, .int .i64 a0.n, .string a0.s, .slice A0 a0.l.length c0] 53)).trans HK2.out).setCell (p := ⟨w.heap.size + 1, 3, none⟩) (by simp) (.slice (some ⟨g, 0, none⟩) a0.l.length (a0.l.length + 2)))
  have z3 : w.heap.size + 2 ≤ (w2.setCell ⟨w.heap.size + 1, 3, none⟩ (.slice (some ⟨g, 0, none⟩) a0.l.length (a0.l.length + 2))).heap.size := by simpa [World.setCell] using hz2
  clear hc2 hf2 hz2 HK2 HRoom
  generalize (w2.setCell ⟨w.heap.size + 1, 3, none⟩ (.slice (some ⟨g, 0, none⟩) a0.l.length (a0.l.length + 2))) = W3 at T1 T3 M3 K3 z3 ⊢
  have HT1 := hid T1; have HT3 := hid T3
  clear T1 T3
  have hc := plain_any _ a0 W3 (HRd.out W3 g M3.out)
  refine hc.mono ?_; clear hc
  rintro e w4 ⟨⟨Ap, cp, rfl, h4⟩, hk4⟩
  rw [HPM.out] at h4 ⊢
  have HO4 := hid h4; have HK4 := hid hk4
  clear h4 hk4
  have HT3a := hid ((HT3.out.kp HK4.out (by omega)).kp ((Kp.refl w4).alloc (.cells #[.int .i64 pm.k, .int .i64 pm.n, .string pm.s, .slice Ap pm.l.length cp] 53)) (by have := HK4.out.le; omega))
  obtain ⟨p0, p1, p2, p3⟩ := HT3a.out
  go_wp2_with fail
  have hc := show_any _ a0 _ (HRd.out _ g ((M3.out.kp HK4.out).kp ((Kp.refl w4).alloc (.cells #[.int .i64 pm.k, .int .i64 pm.n, .string pm.s, .slice Ap pm.l.length cp] 53)))) N0.out
  refine hc.mono ?_; clear hc p0 p1 p2 p3
  rintro e w5 ⟨rfl, hk5⟩
  have HK5 := hid hk5
  clear hk5
  have zz : w.heap.size + 2 ≤ (w4.alloc (.cells #[.int .i64 pm.k, .int .i64 pm.n, .string pm.s, .slice Ap pm.l.length cp] 53)).heap.size := by have := HK4.out.le; simp; omega
  obtain ⟨p0, p1, p2, p3⟩ := HT3a.out.kp HK5.out (by omega)
  go_wp2_with fail
  have hc := line_any _ [a0] _ (rd_lit_val (HRd.out w5 g (((M3.out.kp HK4.out).kp ((Kp.refl w4).alloc (.cells #[.int .i64 pm.k, .int .i64 pm.n, .string pm.s, .slice Ap pm.l.length cp] 53))).kp HK5.out))) BL.out
  refine hc.mono ?_; clear hc p0 p1 p2 p3
  rintro e w6 ⟨rfl, hk6⟩
  have HK6 := hid ((HK5.out.trans ((Kp.refl w5).alloc (.cells #[.int .i64 a0.k, .int .i64 a0.n, .string a0.s, .slice (some ⟨g, 0, none⟩) a0.l.length (a0.l.length + 2)] 53))).trans hk6)
  clear hk6
  have B4 : Boxed w6 w4.heap.size pm (.slice Ap pm.l.length cp) := Boxed.kp (w := w4.alloc (.cells #[.int .i64 pm.k, .int .i64 pm.n, .string pm.s, .slice Ap pm.l.length cp] 53)) (by simp [Boxed, go_sem]) HK6.out (by simp)
  have HOp : Hid (OwnI w6 W3.heap.size (.slice Ap pm.l.length cp) pm.l) := hid (by
    obtain ⟨lv, e, ho, _⟩ := HO4.out
    simp at e
    rw [← e] at ho
    exact own_keep (own_keep ho ((Kp.refl w4).alloc (.cells #[.int .i64 pm.k, .int .i64 pm.n, .string pm.s, .slice Ap pm.l.length cp] 53))) HK6.out)
  have HK36 := hid ((HK4.out.trans ((Kp.refl w4).alloc (.cells #[.int .i64 pm.k, .int .i64 pm.n, .string pm.s, .slice Ap pm.l.length cp] 53))).trans HK6.out)
  have hz36 : W3.heap.size ≤ w6.heap.size := HK36.out.le
  obtain ⟨p0, p1, p2, p3⟩ := B4
  go_wp2_with fail
  have hc := scribble_any _ pm.l w6 W3.heap.size HOp.out BS.out hz36
  refine hc.mono ?_; clear hc p0 p1 p2 p3
  rintro e w7 ⟨rfl, hb7⟩
  have HB7 := hid (Below.trans HK36.out hb7)
  clear hb7 HOp
  have M7 := hid (M3.out.below HB7.out M3.out.lt)
  have HT17 := hid (Boxed.below HT1.out HB7.out (by omega))
  have HT37 := hid (Boxed.below HT3.out HB7.out (by omega))
  have K7 := hid (Below.trans K3.out (Below.mono HB7.out K3.out.le))
  have z7 : w.heap.size + 2 ≤ w7.heap.size := by have := HB7.out.size; omega
  clear HB7 HK36 hz36 HO4 HK4 HK5 HK6 HT3a zz HT1 HT3 M3 K3 z3
  obtain ⟨p0, p1, p2, p3⟩ := HT37.out
  go_wp2_with fail
  have hc := plain_any _ a0 w7 (HRd.out w7 g M7.out)
  refine hc.mono ?_; clear hc p0 p1 p2 p3
  rintro e w8 ⟨⟨Aq, cq, rfl, h8⟩, hk8⟩
  rw [HPM.out] at h8 ⊢
  have HO8 := hid h8; have HK8 := hid hk8
  clear h8 hk8
  go_wp2_with fail
  have RX : Hid (RdVal ((w8.alloc (.cells #[.int .i64 pm.k, .int .i64 pm.n, .string pm.s, .slice Aq pm.l.length cq] 53)).alloc (.cells #[.int .i64 1] 3)) (.agg #[.int .i64 6, .int .i64 0, .string ⟨#[]⟩, .slice (some ⟨w8.heap.size + 1, 0, none⟩) 1 1]) oneM) := hid (by
    have := RdInts.lit (w := w8.alloc (.cells #[.int .i64 pm.k, .int .i64 pm.n, .string pm.s, .slice Aq pm.l.length cq] 53)) #[.int .i64 1] [1] 3 rfl (by decide) (by intro x hx; simp at hx; subst hx; unfold okI; omega) 1 rfl
    have hq : (w8.alloc (.cells #[.int .i64 pm.k, .int .i64 pm.n, .string pm.s, .slice Aq pm.l.length cq] 53)).heap.size = w8.heap.size + 1 := by simp
    rw [hq] at this
    exact ⟨_, rfl, this, by show okI 6; unfold okI; omega, ok0, by decide, by decide⟩)
  have hc := plain_any _ oneM _ RX.out
  refine hc.mono ?_; clear hc
  have e1 : plainM oneM = oneM := by unfold plainM oneM; simp
  rw [e1]
  rintro e w9 ⟨⟨Ax, cx, rfl, h9⟩, hk9⟩
  have HK9 := hid hk9
  clear hk9 h9 RX e1
  simp only [oneM, List.length_cons, List.length_nil, Nat.zero_add]
  go_wp2_with fail
  have KZ := hid (HK9.out.trans ((Kp.refl w9).alloc (.cells #[.int .i64 6, .int .i64 0, .string ⟨#[]⟩, .slice Ax 1 cx] 53)))
  have K79 := hid (((HK8.out.trans ((Kp.refl w8).alloc (.cells #[.int .i64 pm.k, .int .i64 pm.n, .string pm.s, .slice Aq pm.l.length cq] 53))).trans ((Kp.refl _).alloc (.cells #[.int .i64 1] 3))).trans KZ.out)
  have z8 : w7.heap.size ≤ w8.heap.size := HK8.out.le
  have C1 : Boxed (w9.alloc (.cells #[.int .i64 6, .int .i64 0, .string ⟨#[]⟩, .slice Ax 1 cx] 53)) w.heap.size a0 (.slice A0 a0.l.length c0) := Boxed.kp HT17.out K79.out (by omega)
  have C3 : Boxed (w9.alloc (.cells #[.int .i64 6, .int .i64 0, .string ⟨#[]⟩, .slice Ax 1 cx] 53)) (w.heap.size + 1) a0 (.slice (some ⟨g, 0, none⟩) a0.l.length (a0.l.length + 2)) := Boxed.kp HT37.out K79.out (by omega)
  have C5 : Boxed (w9.alloc (.cells #[.int .i64 6, .int .i64 0, .string ⟨#[]⟩, .slice Ax 1 cx] 53)) w8.heap.size pm (.slice Aq pm.l.length cq) := Boxed.kp (w := (w8.alloc (.cells #[.int .i64 pm.k, .int .i64 pm.n, .string pm.s, .slice Aq pm.l.length cq] 53)).alloc (.cells #[.int .i64 1] 3)) (by simp [Boxed, go_sem, World.cell?_alloc_past]) KZ.out (by simp; omega)
  have C6 : (w9.alloc (.cells #[.int .i64 6, .int .i64 0, .string ⟨#[]⟩, .slice Ax 1 cx] 53)).cell? ⟨w9.heap.size, 3, none⟩ = some (.slice Ax 1 cx) := by simp [go_sem]
  have MZ := hid (M7.out.kp K79.out)
  have OQ : Hid (OwnI (w9.alloc (.cells #[.int .i64 6, .int .i64 0, .string ⟨#[]⟩, .slice Ax 1 cx] 53)) w7.heap.size (.slice Aq pm.l.length cq) pm.l) := hid (by
    obtain ⟨lv, e, ho, _⟩ := HO8.out
    simp at e
    rw [← e] at ho
    exact own_keep ho (((((Kp.refl w8).alloc (.cells #[.int .i64 pm.k, .int .i64 pm.n, .string pm.s, .slice Aq pm.l.length cq] 53)).alloc (.cells #[.int .i64 1] 3))).trans KZ.out))
  have KW := hid (Below.trans K7.out (Below.mono K79.out (Below.size K7.out)))
  have y1 : w.heap.size + 2 ≤ (w9.alloc (.cells #[.int .i64 6, .int .i64 0, .string ⟨#[]⟩, .slice Ax 1 cx] 53)).heap.size := by have := K79.out.le; omega
  have y5 : w8.heap.size < (w9.alloc (.cells #[.int .i64 6, .int .i64 0, .string ⟨#[]⟩, .slice Ax 1 cx] 53)).heap.size := by have := KZ.out.le; simp at this ⊢; omega
  have y6 : w9.heap.size < (w9.alloc (.cells #[.int .i64 6, .int .i64 0, .string ⟨#[]⟩, .slice Ax 1 cx] 53)).heap.size := by simp
  have RL := hid (HL.out.kp (Below.trans K7.out (Below.mono K79.out (Below.size K7.out))))
  clear HK9 HK8 HO8 K79 KZ z8 HT17 HT37 M7 K7 z7
  generalize (w9.alloc (.cells #[.int .i64 6, .int .i64 0, .string ⟨#[]⟩, .slice Ax 1 cx] 53)) = W at C1 C3 C5 C6 MZ OQ KW y1 y5 y6 RL ⊢
  have F : HeldM W w.heap.size w8.heap.size w9.heap.size a0 pm (.slice A0 a0.l.length c0) (.slice (some ⟨g, 0, none⟩) a0.l.length (a0.l.length + 2)) (.slice Aq pm.l.length cq) (.slice Ax 1 cx) W := ⟨C1, C3, C5, C6, Kp.refl _, by omega, by omega, y5, y6⟩
  have F' : HeldM W w.heap.size w8.heap.size w9.heap.size a0 pm (.slice A0 a0.l.length c0) (.slice (some ⟨g, 0, none⟩) a0.l.length (a0.l.length + 2)) (.slice Aq pm.l.length cq) (.slice Ax 1 cx) W.drew := F.kp (Kp.refl _).drew
  have HC1 := hid C1
  clear C1 C3 C5 C6 y1 y5 y6
  by_cases hk : a0.k = 6
  · have hpl : pm.l = a0.l := by rw [← HPM.out]; unfold plainM; rw [if_neg (by omega), if_neg (by omega), if_neg (by omega), if_pos hk]
    have n6 : (a0.k != 6) = false := by simp [hk]
    have hle : ((pm.l.length : Int) == (a0.l.length : Int)) = true := by simp [hpl]
    have HK := hid hk
    by_cases h0 : a0.l.length = 0
    · have z0 : ((a0.l.length : Int) == 0) = true := by simp [h0]
      clear hk hpl h0
      refine wp_region_kp [[], [0], [1], [2], [3], [4], [4, 5], [4], [4, 7], [4, 6, 8], [4, 9], [10], [11], [11, 12], [11, 13], [11, 14], [15], [15, 16], [15, 17], [15], [15, 19], [15, 20], [15, 18, 21], [15, 22], [23], [23, 24], [23, 25], [23, 26], [23, 27], [28], [28, 29], [28, 30], [28, 31], [28], [28, 33], [28, 34], [28, 35], [28, 32, 36], [23, 28, 37], [15, 23, 38], [11, 15, 39], [11, 40], [41]] (HeldM W w.heap.size w8.heap.size w9.heap.size a0 pm (.slice A0 a0.l.length c0) (.slice (some ⟨g, 0, none⟩) a0.l.length (a0.l.length + 2)) (.slice Aq pm.l.length cq) (.slice Ax 1 cx))
        [fun (y : Value) (u : World) => y = (.pointer (some ⟨w9.heap.size, 3, none⟩) : Value),
         fun (y : Value) (u : World) => y = (.slice Ax 1 cx : Value),
         fun (y : Value) (u : World) => y = (.int .i64 1 : Value),
         fun (y : Value) (u : World) => y = (.bool true : Value),
         fun (y : Value) (u : World) => y = (.bool true : Value),
         fun (y : Value) (u : World) => y = (.pointer (some ⟨w.heap.size + 1, 3, none⟩) : Value),
         fun (y : Value) (u : World) => y = (.slice (some ⟨g, 0, none⟩) a0.l.length (a0.l.length + 2) : Value),
         fun (y : Value) (u : World) => y = (.pointer (some ⟨w.heap.size, 3, none⟩) : Value),
         fun (y : Value) (u : World) => y = (.slice A0 a0.l.length c0 : Value),
         fun (y : Value) (u : World) => y = (.bool true : Value),
         fun (y : Value) (u : World) => y = (.bool true : Value),
         fun (y : Value) (u : World) => y = (.bool true : Value),
         fun (y : Value) (u : World) => y = (.pointer (some ⟨w.heap.size, 0, none⟩) : Value),
         fun (y : Value) (u : World) => y = (.int .i64 a0.k : Value),
         fun (y : Value) (u : World) => y = (.bool false : Value),
         fun (y : Value) (u : World) => y = (.bool false : Value),
         fun (y : Value) (u : World) => y = (.pointer (some ⟨w8.heap.size, 3, none⟩) : Value),
         fun (y : Value) (u : World) => y = (.slice Aq pm.l.length cq : Value),
         fun (y : Value) (u : World) => y = (.int .i64 (pm.l.length : Int) : Value),
         fun (y : Value) (u : World) => y = (.pointer (some ⟨w.heap.size, 3, none⟩) : Value),
         fun (y : Value) (u : World) => y = (.slice A0 a0.l.length c0 : Value),
         fun (y : Value) (u : World) => y = (.int .i64 (a0.l.length : Int) : Value),
         fun (y : Value) (u : World) => y = (.bool true : Value),
         fun (y : Value) (u : World) => y = (.bool true : Value),
         fun (y : Value) (u : World) => y = (.pointer (some ⟨w.heap.size, 3, none⟩) : Value),
         fun (y : Value) (u : World) => y = (.slice A0 a0.l.length c0 : Value),
         fun (y : Value) (u : World) => y = (.int .i64 (a0.l.length : Int) : Value),
         fun (y : Value) (u : World) => y = (.bool true : Value),
         fun (y : Value) (u : World) => y = (.bool true : Value),
         fun (y : Value) (u : World) => y = (undef : Value),
         fun (y : Value) (u : World) => y = (undef : Value),
         fun (y : Value) (u : World) => y = (undef : Value),
         fun (y : Value) (u : World) => y = (undef : Value),
         fun (y : Value) (u : World) => y = (undef : Value),
         fun (y : Value) (u : World) => y = (undef : Value),
         fun (y : Value) (u : World) => y = (undef : Value),
         fun (y : Value) (u : World) => y = (undef : Value),
         fun (y : Value) (u : World) => y = (undef : Value),
         fun (y : Value) (u : World) => y = (.bool true : Value),
         fun (y : Value) (u : World) => y = (.bool true : Value),
         fun (y : Value) (u : World) => y = (.bool true : Value),
         fun (y : Value) (u : World) => y = (.bool true : Value),
         fun (y : Value) (u : World) => y = (.bool true : Value)]
        (by kernel_rfl) (by kernel_rfl) (by kernel_rfl) (by kernel_rfl) (F') (fun _ _ hk h => h.kp hk) ⟨fun _ _ _ _ h => h, fun _ _ _ _ h => h, fun _ _ _ _ h => h, fun _ _ _ _ h => h, fun _ _ _ _ h => h, fun _ _ _ _ h => h, fun _ _ _ _ h => h, fun _ _ _ _ h => h, fun _ _ _ _ h => h, fun _ _ _ _ h => h, fun _ _ _ _ h => h, fun _ _ _ _ h => h, fun _ _ _ _ h => h, fun _ _ _ _ h => h, fun _ _ _ _ h => h, fun _ _ _ _ h => h, fun _ _ _ _ h => h, fun _ _ _ _ h => h, fun _ _ _ _ h => h, fun _ _ _ _ h => h, fun _ _ _ _ h => h, fun _ _ _ _ h => h, fun _ _ _ _ h => h, fun _ _ _ _ h => h, fun _ _ _ _ h => h, fun _ _ _ _ h => h, fun _ _ _ _ h => h, fun _ _ _ _ h => h, fun _ _ _ _ h => h, fun _ _ _ _ h => h, fun _ _ _ _ h => h, fun _ _ _ _ h => h, fun _ _ _ _ h => h, fun _ _ _ _ h => h, fun _ _ _ _ h => h, fun _ _ _ _ h => h, fun _ _ _ _ h => h, fun _ _ _ _ h => h, fun _ _ _ _ h => h, fun _ _ _ _ h => h, fun _ _ _ _ h => h, fun _ _ _ _ h => h, fun _ _ _ _ h => h, trivial⟩ ⟨?sb0, ?sb1, ?sb2, ?sb3, ?sb4, ?sb5, ?sb6, ?sb7, ?sb8, ?sb9, ?sb10, ?sb11, ?sb12, ?sb13, ?sb14, ?sb15, ?sb16, ?sb17, ?sb18, ?sb19, ?sb20, ?sb21, ?sb22, ?sb23, ?sb24, ?sb25, ?sb26, ?sb27, ?sb28, ?sb29, ?sb30, ?sb31, ?sb32, ?sb33, ?sb34, ?sb35, ?sb36, ?sb37, ?sb38, ?sb39, ?sb40, ?sb41, ?sb42, trivial⟩ ?hEb
      case sb0 =>
        intro x u hg hd K hK
        clear hd
        refine ⟨?_⟩
        simp only [putsFrom, Act.put, List.setIfInBounds_toArray, List.set_cons_zero, List.set_cons_succ, Nat.reduceAdd] at hK ⊢
        go_simp
        exact hK.out _ _ (Kp.refl _) rfl
      case sb1 =>
        intro x u hg hd K hK
        have d0 : (x 0) = .pointer (some ⟨w9.heap.size, 3, none⟩) := And.left hd
        clear hd
        refine ⟨?_⟩
        simp only [putsFrom, Act.put, List.setIfInBounds_toArray, List.set_cons_zero, List.set_cons_succ, Nat.reduceAdd, d0] at hK ⊢
        go_simp
        exact hK.out _ _ (Kp.refl _) rfl
      case sb2 =>
        intro x u hg hd K hK
        have d1 : (x 1) = .slice Ax 1 cx := And.left hd
        clear hd
        refine ⟨?_⟩
        simp only [putsFrom, Act.put, List.setIfInBounds_toArray, List.set_cons_zero, List.set_cons_succ, Nat.reduceAdd, d1] at hK ⊢
        go_simp
        exact hK.out _ _ (Kp.refl _) rfl
      case sb3 =>
        intro x u hg hd K hK
        have d2 : (x 2) = .int .i64 1 := And.left hd
        clear hd
        refine ⟨?_⟩
        simp only [putsFrom, Act.put, List.setIfInBounds_toArray, List.set_cons_zero, List.set_cons_succ, Nat.reduceAdd, d2] at hK ⊢
        go_simp
        exact hK.out _ _ (Kp.refl _) rfl
      case sb4 =>
        intro x u hg hd K hK
        have d3 : (x 3) = .bool true := And.left hd
        clear hd
        refine ⟨?_⟩
        simp only [putsFrom, Act.put, List.setIfInBounds_toArray, List.set_cons_zero, List.set_cons_succ, Nat.reduceAdd, d3] at hK ⊢
        go_simp
        exact hK.out _ _ (Kp.refl _) rfl
      case sb5 =>
        intro x u hg hd K hK
        have d4 : (x 4) = .bool true := And.left hd
        clear hd
        refine ⟨?_⟩
        simp only [putsFrom, Act.put, List.setIfInBounds_toArray, List.set_cons_zero, List.set_cons_succ, Nat.reduceAdd, d4] at hK ⊢
        go_simp
        exact hK.out _ _ (Kp.refl _) rfl
      case sb6 =>
        intro x u hg hd K hK
        have d4 : (x 4) = .bool true := And.left hd
        have d5 : (x 5) = .pointer (some ⟨w.heap.size + 1, 3, none⟩) := And.left (And.right hd)
        clear hd
        refine ⟨?_⟩
        simp only [putsFrom, Act.put, List.setIfInBounds_toArray, List.set_cons_zero, List.set_cons_succ, Nat.reduceAdd, d4, d5] at hK ⊢
        go_simp
        exact hK.out _ _ (Kp.refl _) rfl
      case sb7 =>
        intro x u hg hd K hK
        have d4 : (x 4) = .bool true := And.left hd
        clear hd
        refine ⟨?_⟩
        simp only [putsFrom, Act.put, List.setIfInBounds_toArray, List.set_cons_zero, List.set_cons_succ, Nat.reduceAdd, d4] at hK ⊢
        go_simp
        exact hK.out _ _ (Kp.refl _) rfl
      case sb8 =>
        intro x u hg hd K hK
        have d4 : (x 4) = .bool true := And.left hd
        have d7 : (x 7) = .pointer (some ⟨w.heap.size, 3, none⟩) := And.left (And.right hd)
        clear hd
        refine ⟨?_⟩
        simp only [putsFrom, Act.put, List.setIfInBounds_toArray, List.set_cons_zero, List.set_cons_succ, Nat.reduceAdd, d4, d7] at hK ⊢
        go_simp
        exact hK.out _ _ (Kp.refl _) rfl
      case sb9 =>
        intro x u hg hd K hK
        have d4 : (x 4) = .bool true := And.left hd
        have d6 : (x 6) = .slice (some ⟨g, 0, none⟩) a0.l.length (a0.l.length + 2) := And.left (And.right hd)
        have d8 : (x 8) = .slice A0 a0.l.length c0 := And.left (And.right (And.right hd))
        clear hd
        refine ⟨?_⟩
        simp only [putsFrom, Act.put, List.setIfInBounds_toArray, List.set_cons_zero, List.set_cons_succ, Nat.reduceAdd, d4, d6, d8] at hK ⊢
        go_simp
        go_at_call 37
        have hc := stayed_any g _ a0.l u (MZ.out.kp hg.k) (RL.out.kp hg.k)
        refine hc.mono ?_
        clear hc
        rintro e u' ⟨rfl, hk⟩
        dsimp only
        exact hK.out _ _ hk rfl
      case sb10 =>
        intro x u hg hd K hK
        have d4 : (x 4) = .bool true := And.left hd
        have d9 : (x 9) = .bool true := And.left (And.right hd)
        clear hd
        refine ⟨?_⟩
        simp only [putsFrom, Act.put, List.setIfInBounds_toArray, List.set_cons_zero, List.set_cons_succ, Nat.reduceAdd, d4, d9] at hK ⊢
        go_simp
        exact hK.out _ _ (Kp.refl _) rfl
      case sb11 =>
        intro x u hg hd K hK
        have d10 : (x 10) = .bool true := And.left hd
        clear hd
        refine ⟨?_⟩
        simp only [putsFrom, Act.put, List.setIfInBounds_toArray, List.set_cons_zero, List.set_cons_succ, Nat.reduceAdd, d10] at hK ⊢
        go_simp
        exact hK.out _ _ (Kp.refl _) rfl
      case sb12 =>
        intro x u hg hd K hK
        have d11 : (x 11) = .bool true := And.left hd
        clear hd
        refine ⟨?_⟩
        simp only [putsFrom, Act.put, List.setIfInBounds_toArray, List.set_cons_zero, List.set_cons_succ, Nat.reduceAdd, d11] at hK ⊢
        go_simp
        exact hK.out _ _ (Kp.refl _) rfl
      case sb13 =>
        intro x u hg hd K hK
        have d11 : (x 11) = .bool true := And.left hd
        have d12 : (x 12) = .pointer (some ⟨w.heap.size, 0, none⟩) := And.left (And.right hd)
        clear hd
        refine ⟨?_⟩
        simp only [putsFrom, Act.put, List.setIfInBounds_toArray, List.set_cons_zero, List.set_cons_succ, Nat.reduceAdd, d11, d12] at hK ⊢
        go_simp
        exact hK.out _ _ (Kp.refl _) rfl
      case sb14 =>
        intro x u hg hd K hK
        have d11 : (x 11) = .bool true := And.left hd
        have d13 : (x 13) = .int .i64 a0.k := And.left (And.right hd)
        clear hd
        refine ⟨?_⟩
        simp only [putsFrom, Act.put, List.setIfInBounds_toArray, List.set_cons_zero, List.set_cons_succ, Nat.reduceAdd, d11, d13] at hK ⊢
        go_simp
        exact hK.out _ _ (Kp.refl _) rfl
      case sb15 =>
        intro x u hg hd K hK
        have d11 : (x 11) = .bool true := And.left hd
        have d14 : (x 14) = .bool false := And.left (And.right hd)
        clear hd
        refine ⟨?_⟩
        simp only [putsFrom, Act.put, List.setIfInBounds_toArray, List.set_cons_zero, List.set_cons_succ, Nat.reduceAdd, d11, d14] at hK ⊢
        go_simp
        exact hK.out _ _ (Kp.refl _) rfl
      case sb16 =>
        intro x u hg hd K hK
        have d15 : (x 15) = .bool false := And.left hd
        clear hd
        refine ⟨?_⟩
        simp only [putsFrom, Act.put, List.setIfInBounds_toArray, List.set_cons_zero, List.set_cons_succ, Nat.reduceAdd, d15] at hK ⊢
        go_simp
        exact hK.out _ _ (Kp.refl _) rfl
      case sb17 =>
        intro x u hg hd K hK
        have d15 : (x 15) = .bool false := And.left hd
        have d16 : (x 16) = .pointer (some ⟨w8.heap.size, 3, none⟩) := And.left (And.right hd)
        clear hd
        refine ⟨?_⟩
        simp only [putsFrom, Act.put, List.setIfInBounds_toArray, List.set_cons_zero, List.set_cons_succ, Nat.reduceAdd, d15, d16] at hK ⊢
        go_simp
        exact hK.out _ _ (Kp.refl _) rfl
      case sb18 =>
        intro x u hg hd K hK
        have d15 : (x 15) = .bool false := And.left hd
        have d17 : (x 17) = .slice Aq pm.l.length cq := And.left (And.right hd)
        clear hd
        refine ⟨?_⟩
        simp only [putsFrom, Act.put, List.setIfInBounds_toArray, List.set_cons_zero, List.set_cons_succ, Nat.reduceAdd, d15, d17] at hK ⊢
        go_simp
        exact hK.out _ _ (Kp.refl _) rfl
      case sb19 =>
        intro x u hg hd K hK
        have d15 : (x 15) = .bool false := And.left hd
        clear hd
        refine ⟨?_⟩
        simp only [putsFrom, Act.put, List.setIfInBounds_toArray, List.set_cons_zero, List.set_cons_succ, Nat.reduceAdd, d15] at hK ⊢
        go_simp
        exact hK.out _ _ (Kp.refl _) rfl
      case sb20 =>
        intro x u hg hd K hK
        have d15 : (x 15) = .bool false := And.left hd
        have d19 : (x 19) = .pointer (some ⟨w.heap.size, 3, none⟩) := And.left (And.right hd)
        clear hd
        refine ⟨?_⟩
        simp only [putsFrom, Act.put, List.setIfInBounds_toArray, List.set_cons_zero, List.set_cons_succ, Nat.reduceAdd, d15, d19] at hK ⊢
        go_simp
        exact hK.out _ _ (Kp.refl _) rfl
      case sb21 =>
        intro x u hg hd K hK
        have d15 : (x 15) = .bool false := And.left hd
        have d20 : (x 20) = .slice A0 a0.l.length c0 := And.left (And.right hd)
        clear hd
        refine ⟨?_⟩
        simp only [putsFrom, Act.put, List.setIfInBounds_toArray, List.set_cons_zero, List.set_cons_succ, Nat.reduceAdd, d15, d20] at hK ⊢
        go_simp
        exact hK.out _ _ (Kp.refl _) rfl
      case sb22 =>
        intro x u hg hd K hK
        have d15 : (x 15) = .bool false := And.left hd
        have d18 : (x 18) = .int .i64 (pm.l.length : Int) := And.left (And.right hd)
        have d21 : (x 21) = .int .i64 (a0.l.length : Int) := And.left (And.right (And.right hd))
        clear hd
        refine ⟨?_⟩
        simp only [putsFrom, Act.put, List.setIfInBounds_toArray, List.set_cons_zero, List.set_cons_succ, Nat.reduceAdd, d15, d18, d21] at hK ⊢
        go_simp
        exact hK.out _ _ (Kp.refl _) rfl
      case sb23 =>
        intro x u hg hd K hK
        have d15 : (x 15) = .bool false := And.left hd
        have d22 : (x 22) = .bool true := And.left (And.right hd)
        clear hd
        refine ⟨?_⟩
        simp only [putsFrom, Act.put, List.setIfInBounds_toArray, List.set_cons_zero, List.set_cons_succ, Nat.reduceAdd, d15, d22] at hK ⊢
        go_simp
        exact hK.out _ _ (Kp.refl _) rfl
      case sb24 =>
        intro x u hg hd K hK
        have d23 : (x 23) = .bool true := And.left hd
        clear hd
        refine ⟨?_⟩
        simp only [putsFrom, Act.put, List.setIfInBounds_toArray, List.set_cons_zero, List.set_cons_succ, Nat.reduceAdd, d23] at hK ⊢
        go_simp
        exact hK.out _ _ (Kp.refl _) rfl
      case sb25 =>
        intro x u hg hd K hK
        have d23 : (x 23) = .bool true := And.left hd
        have d24 : (x 24) = .pointer (some ⟨w.heap.size, 3, none⟩) := And.left (And.right hd)
        clear hd
        refine ⟨?_⟩
        simp only [putsFrom, Act.put, List.setIfInBounds_toArray, List.set_cons_zero, List.set_cons_succ, Nat.reduceAdd, d23, d24] at hK ⊢
        go_simp
        exact hK.out _ _ (Kp.refl _) rfl
      case sb26 =>
        intro x u hg hd K hK
        have d23 : (x 23) = .bool true := And.left hd
        have d25 : (x 25) = .slice A0 a0.l.length c0 := And.left (And.right hd)
        clear hd
        refine ⟨?_⟩
        simp only [putsFrom, Act.put, List.setIfInBounds_toArray, List.set_cons_zero, List.set_cons_succ, Nat.reduceAdd, d23, d25] at hK ⊢
        go_simp
        exact hK.out _ _ (Kp.refl _) rfl
      case sb27 =>
        intro x u hg hd K hK
        have d23 : (x 23) = .bool true := And.left hd
        have d26 : (x 26) = .int .i64 (a0.l.length : Int) := And.left (And.right hd)
        clear hd
        refine ⟨?_⟩
        simp only [putsFrom, Act.put, List.setIfInBounds_toArray, List.set_cons_zero, List.set_cons_succ, Nat.reduceAdd, d23, d26] at hK ⊢
        go_simp
        exact hK.out _ _ (Kp.refl _) rfl
      case sb28 =>
        intro x u hg hd K hK
        have d23 : (x 23) = .bool true := And.left hd
        have d27 : (x 27) = .bool true := And.left (And.right hd)
        clear hd
        refine ⟨?_⟩
        simp only [putsFrom, Act.put, List.setIfInBounds_toArray, List.set_cons_zero, List.set_cons_succ, Nat.reduceAdd, d23, d27] at hK ⊢
        go_simp
        exact hK.out _ _ (Kp.refl _) rfl
      case sb29 =>
        intro x u hg hd K hK
        have d28 : (x 28) = .bool true := And.left hd
        clear hd
        refine ⟨?_⟩
        simp only [putsFrom, Act.put, List.setIfInBounds_toArray, List.set_cons_zero, List.set_cons_succ, Nat.reduceAdd, d28] at hK ⊢
        go_simp
        exact hK.out _ _ (Kp.refl _) rfl
      case sb30 =>
        intro x u hg hd K hK
        have d28 : (x 28) = .bool true := And.left hd
        have d29 : (x 29) = undef := And.left (And.right hd)
        clear hd
        refine ⟨?_⟩
        simp only [putsFrom, Act.put, List.setIfInBounds_toArray, List.set_cons_zero, List.set_cons_succ, Nat.reduceAdd, d28, d29] at hK ⊢
        go_simp
        exact hK.out _ _ (Kp.refl _) rfl
      case sb31 =>
        intro x u hg hd K hK
        have d28 : (x 28) = .bool true := And.left hd
        have d30 : (x 30) = undef := And.left (And.right hd)
        clear hd
        refine ⟨?_⟩
        simp only [putsFrom, Act.put, List.setIfInBounds_toArray, List.set_cons_zero, List.set_cons_succ, Nat.reduceAdd, d28, d30] at hK ⊢
        go_simp
        exact hK.out _ _ (Kp.refl _) rfl
      case sb32 =>
        intro x u hg hd K hK
        have d28 : (x 28) = .bool true := And.left hd
        have d31 : (x 31) = undef := And.left (And.right hd)
        clear hd
        refine ⟨?_⟩
        simp only [putsFrom, Act.put, List.setIfInBounds_toArray, List.set_cons_zero, List.set_cons_succ, Nat.reduceAdd, d28, d31] at hK ⊢
        go_simp
        exact hK.out _ _ (Kp.refl _) rfl
      case sb33 =>
        intro x u hg hd K hK
        have d28 : (x 28) = .bool true := And.left hd
        clear hd
        refine ⟨?_⟩
        simp only [putsFrom, Act.put, List.setIfInBounds_toArray, List.set_cons_zero, List.set_cons_succ, Nat.reduceAdd, d28] at hK ⊢
        go_simp
        exact hK.out _ _ (Kp.refl _) rfl
      case sb34 =>
        intro x u hg hd K hK
        have d28 : (x 28) = .bool true := And.left hd
        have d33 : (x 33) = undef := And.left (And.right hd)
        clear hd
        refine ⟨?_⟩
        simp only [putsFrom, Act.put, List.setIfInBounds_toArray, List.set_cons_zero, List.set_cons_succ, Nat.reduceAdd, d28, d33] at hK ⊢
        go_simp
        exact hK.out _ _ (Kp.refl _) rfl
      case sb35 =>
        intro x u hg hd K hK
        have d28 : (x 28) = .bool true := And.left hd
        have d34 : (x 34) = undef := And.left (And.right hd)
        clear hd
        refine ⟨?_⟩
        simp only [putsFrom, Act.put, List.setIfInBounds_toArray, List.set_cons_zero, List.set_cons_succ, Nat.reduceAdd, d28, d34] at hK ⊢
        go_simp
        exact hK.out _ _ (Kp.refl _) rfl
      case sb36 =>
        intro x u hg hd K hK
        have d28 : (x 28) = .bool true := And.left hd
        have d35 : (x 35) = undef := And.left (And.right hd)
        clear hd
        refine ⟨?_⟩
        simp only [putsFrom, Act.put, List.setIfInBounds_toArray, List.set_cons_zero, List.set_cons_succ, Nat.reduceAdd, d28, d35] at hK ⊢
        go_simp
        exact hK.out _ _ (Kp.refl _) rfl
      case sb37 =>
        intro x u hg hd K hK
        have d28 : (x 28) = .bool true := And.left hd
        have d32 : (x 32) = undef := And.left (And.right hd)
        have d36 : (x 36) = undef := And.left (And.right (And.right hd))
        clear hd
        refine ⟨?_⟩
        simp only [putsFrom, Act.put, List.setIfInBounds_toArray, List.set_cons_zero, List.set_cons_succ, Nat.reduceAdd, d28, d32, d36] at hK ⊢
        go_simp
        exact hK.out _ _ (Kp.refl _) rfl
      case sb38 =>
        intro x u hg hd K hK
        have d23 : (x 23) = .bool true := And.left hd
        have d28 : (x 28) = .bool true := And.left (And.right hd)
        have d37 : (x 37) = undef := And.left (And.right (And.right hd))
        clear hd
        refine ⟨?_⟩
        simp only [putsFrom, Act.put, List.setIfInBounds_toArray, List.set_cons_zero, List.set_cons_succ, Nat.reduceAdd, d23, d28, d37] at hK ⊢
        go_simp
        exact hK.out _ _ (Kp.refl _) rfl
      case sb39 =>
        intro x u hg hd K hK
        have d15 : (x 15) = .bool false := And.left hd
        have d23 : (x 23) = .bool true := And.left (And.right hd)
        have d38 : (x 38) = .bool true := And.left (And.right (And.right hd))
        clear hd
        refine ⟨?_⟩
        simp only [putsFrom, Act.put, List.setIfInBounds_toArray, List.set_cons_zero, List.set_cons_succ, Nat.reduceAdd, d15, d23, d38] at hK ⊢
        go_simp
        exact hK.out _ _ (Kp.refl _) rfl
      case sb40 =>
        intro x u hg hd K hK
        have d11 : (x 11) = .bool true := And.left hd
        have d15 : (x 15) = .bool false := And.left (And.right hd)
        have d39 : (x 39) = .bool true := And.left (And.right (And.right hd))
        clear hd
        refine ⟨?_⟩
        simp only [putsFrom, Act.put, List.setIfInBounds_toArray, List.set_cons_zero, List.set_cons_succ, Nat.reduceAdd, d11, d15, d39] at hK ⊢
        go_simp
        exact hK.out _ _ (Kp.refl _) rfl
      case sb41 =>
        intro x u hg hd K hK
        have d11 : (x 11) = .bool true := And.left hd
        have d40 : (x 40) = .bool true := And.left (And.right hd)
        clear hd
        refine ⟨?_⟩
        simp only [putsFrom, Act.put, List.setIfInBounds_toArray, List.set_cons_zero, List.set_cons_succ, Nat.reduceAdd, d11, d40] at hK ⊢
        go_simp
        exact hK.out _ _ (Kp.refl _) rfl
      case sb42 =>
        intro x u hg hd K hK
        have d41 : (x 41) = .bool true := And.left hd
        clear hd
        refine ⟨?_⟩
        simp only [putsFrom, Act.put, List.setIfInBounds_toArray, List.set_cons_zero, List.set_cons_succ, Nat.reduceAdd, d41] at hK ⊢
        go_simp
        exact hK.out _ _ (Kp.refl _) rfl
      intro x u hg he
      have d0 : (x 0) = .pointer (some ⟨w9.heap.size, 3, none⟩) := And.left he
      have d1 : (x 1) = .slice Ax 1 cx := And.left (And.right he)
      have d2 : (x 2) = .int .i64 1 := And.left (And.right (And.right he))
      have d3 : (x 3) = .bool true := And.left (And.right (And.right (And.right he)))
      have d4 : (x 4) = .bool true := And.left (And.right (And.right (And.right (And.right he))))
      have d5 : (x 5) = .pointer (some ⟨w.heap.size + 1, 3, none⟩) := And.left (And.right (And.right (And.right (And.right (And.right he)))))
      have d6 : (x 6) = .slice (some ⟨g, 0, none⟩) a0.l.length (a0.l.length + 2) := And.left (And.right (And.right (And.right (And.right (And.right (And.right he))))))
      have d7 : (x 7) = .pointer (some ⟨w.heap.size, 3, none⟩) := And.left (And.right (And.right (And.right (And.right (And.right (And.right (And.right he)))))))
      have d8 : (x 8) = .slice A0 a0.l.length c0 := And.left (And.right (And.right (And.right (And.right (And.right (And.right (And.right (And.right he))))))))
      have d9 : (x 9) = .bool true := And.left (And.right (And.right (And.right (And.right (And.right (And.right (And.right (And.right (And.right he)))))))))
      have d10 : (x 10) = .bool true := And.left (And.right (And.right (And.right (And.right (And.right (And.right (And.right (And.right (And.right (And.right he))))))))))
      have d11 : (x 11) = .bool true := And.left (And.right (And.right (And.right (And.right (And.right (And.right (And.right (And.right (And.right (And.right (And.right he)))))))))))
      have d12 : (x 12) = .pointer (some ⟨w.heap.size, 0, none⟩) := And.left (And.right (And.right (And.right (And.right (And.right (And.right (And.right (And.right (And.right (And.right (And.right (And.right he))))))))))))
      have d13 : (x 13) = .int .i64 a0.k := And.left (And.right (And.right (And.right (And.right (And.right (And.right (And.right (And.right (And.right (And.right (And.right (And.right (And.right he)))))))))))))
      have d14 : (x 14) = .bool false := And.left (And.right (And.right (And.right (And.right (And.right (And.right (And.right (And.right (And.right (And.right (And.right (And.right (And.right (And.right he))))))))))))))
      have d15 : (x 15) = .bool false := And.left (And.right (And.right (And.right (And.right (And.right (And.right (And.right (And.right (And.right (And.right (And.right (And.right (And.right (And.right (And.right he)))))))))))))))
      have d16 : (x 16) = .pointer (some ⟨w8.heap.size, 3, none⟩) := And.left (And.right (And.right (And.right (And.right (And.right (And.right (And.right (And.right (And.right (And.right (And.right (And.right (And.right (And.right (And.right (And.right he))))))))))))))))
      have d17 : (x 17) = .slice Aq pm.l.length cq := And.left (And.right (And.right (And.right (And.right (And.right (And.right (And.right (And.right (And.right (And.right (And.right (And.right (And.right (And.right (And.right (And.right (And.right he)))))))))))))))))
      have d18 : (x 18) = .int .i64 (pm.l.length : Int) := And.left (And.right (And.right (And.right (And.right (And.right (And.right (And.right (And.right (And.right (And.right (And.right (And.right (And.right (And.right (And.right (And.right (And.right (And.right he))))))))))))))))))
      have d19 : (x 19) = .pointer (some ⟨w.heap.size, 3, none⟩) := And.left (And.right (And.right (And.right (And.right (And.right (And.right (And.right (And.right (And.right (And.right (And.right (And.right (And.right (And.right (And.right (And.right (And.right (And.right (And.right he)))))))))))))))))))
      have d20 : (x 20) = .slice A0 a0.l.length c0 := And.left (And.right (And.right (And.right (And.right (And.right (And.right (And.right (And.right (And.right (And.right (And.right (And.right (And.right (And.right (And.right (And.right (And.right (And.right (And.right (And.right he))))))))))))))))))))
      have d21 : (x 21) = .int .i64 (a0.l.length : Int) := And.left (And.right (And.right (And.right (And.right (And.right (And.right (And.right (And.right (And.right (And.right (And.right (And.right (And.right (And.right (And.right (And.right (And.right (And.right (And.right (And.right (And.right he)))))))))))))))))))))
      have d22 : (x 22) = .bool true := And.left (And.right (And.right (And.right (And.right (And.right (And.right (And.right (And.right (And.right (And.right (And.right (And.right (And.right (And.right (And.right (And.right (And.right (And.right (And.right (And.right (And.right (And.right he))))))))))))))))))))))
      have d23 : (x 23) = .bool true := And.left (And.right (And.right (And.right (And.right (And.right (And.right (And.right (And.right (And.right (And.right (And.right (And.right (And.right (And.right (And.right (And.right (And.right (And.right (And.right (And.right (And.right (And.right (And.right he)))))))))))))))))))))))
      have d24 : (x 24) = .pointer (some ⟨w.heap.size, 3, none⟩) := And.left (And.right (And.right (And.right (And.right (And.right (And.right (And.right (And.right (And.right (And.right (And.right (And.right (And.right (And.right (And.right (And.right (And.right (And.right (And.right (And.right (And.right (And.right (And.right (And.right he))))))))))))))))))))))))
      have d25 : (x 25) = .slice A0 a0.l.length c0 := And.left (And.right (And.right (And.right (And.right (And.right (And.right (And.right (And.right (And.right (And.right (And.right (And.right (And.right (And.right (And.right (And.right (And.right (And.right (And.right (And.right (And.right (And.right (And.right (And.right (And.right he)))))))))))))))))))))))))
      have d26 : (x 26) = .int .i64 (a0.l.length : Int) := And.left (And.right (And.right (And.right (And.right (And.right (And.right (And.right (And.right (And.right (And.right (And.right (And.right (And.right (And.right (And.right (And.right (And.right (And.right (And.right (And.right (And.right (And.right (And.right (And.right (And.right (And.right he))))))))))))))))))))))))))
      have d27 : (x 27) = .bool true := And.left (And.right (And.right (And.right (And.right (And.right (And.right (And.right (And.right (And.right (And.right (And.right (And.right (And.right (And.right (And.right (And.right (And.right (And.right (And.right (And.right (And.right (And.right (And.right (And.right (And.right (And.right (And.right he)))))))))))))))))))))))))))
      have d28 : (x 28) = .bool true := And.left (And.right (And.right (And.right (And.right (And.right (And.right (And.right (And.right (And.right (And.right (And.right (And.right (And.right (And.right (And.right (And.right (And.right (And.right (And.right (And.right (And.right (And.right (And.right (And.right (And.right (And.right (And.right (And.right he))))))))))))))))))))))))))))
      have d29 : (x 29) = undef := And.left (And.right (And.right (And.right (And.right (And.right (And.right (And.right (And.right (And.right (And.right (And.right (And.right (And.right (And.right (And.right (And.right (And.right (And.right (And.right (And.right (And.right (And.right (And.right (And.right (And.right (And.right (And.right (And.right (And.right he)))))))))))))))))))))))))))))
      have d30 : (x 30) = undef := And.left (And.right (And.right (And.right (And.right (And.right (And.right (And.right (And.right (And.right (And.right (And.right (And.right (And.right (And.right (And.right (And.right (And.right (And.right (And.right (And.right (And.right (And.right (And.right (And.right (And.right (And.right (And.right (And.right (And.right (And.right he))))))))))))))))))))))))))))))
      have d31 : (x 31) = undef := And.left (And.right (And.right (And.right (And.right (And.right (And.right (And.right (And.right (And.right (And.right (And.right (And.right (And.right (And.right (And.right (And.right (And.right (And.right (And.right (And.right (And.right (And.right (And.right (And.right (And.right (And.right (And.right (And.right (And.right (And.right (And.right he)))))))))))))))))))))))))))))))
      have d32 : (x 32) = undef := And.left (And.right (And.right (And.right (And.right (And.right (And.right (And.right (And.right (And.right (And.right (And.right (And.right (And.right (And.right (And.right (And.right (And.right (And.right (And.right (And.right (And.right (And.right (And.right (And.right (And.right (And.right (And.right (And.right (And.right (And.right (And.right (And.right he))))))))))))))))))))))))))))))))
      have d33 : (x 33) = undef := And.left (And.right (And.right (And.right (And.right (And.right (And.right (And.right (And.right (And.right (And.right (And.right (And.right (And.right (And.right (And.right (And.right (And.right (And.right (And.right (And.right (And.right (And.right (And.right (And.right (And.right (And.right (And.right (And.right (And.right (And.right (And.right (And.right (And.right he)))))))))))))))))))))))))))))))))
      have d34 : (x 34) = undef := And.left (And.right (And.right (And.right (And.right (And.right (And.right (And.right (And.right (And.right (And.right (And.right (And.right (And.right (And.right (And.right (And.right (And.right (And.right (And.right (And.right (And.right (And.right (And.right (And.right (And.right (And.right (And.right (And.right (And.right (And.right (And.right (And.right (And.right (And.right he))))))))))))))))))))))))))))))))))
      have d35 : (x 35) = undef := And.left (And.right (And.right (And.right (And.right (And.right (And.right (And.right (And.right (And.right (And.right (And.right (And.right (And.right (And.right (And.right (And.right (And.right (And.right (And.right (And.right (And.right (And.right (And.right (And.right (And.right (And.right (And.right (And.right (And.right (And.right (And.right (And.right (And.right (And.right (And.right he)))))))))))))))))))))))))))))))))))
      have d36 : (x 36) = undef := And.left (And.right (And.right (And.right (And.right (And.right (And.right (And.right (And.right (And.right (And.right (And.right (And.right (And.right (And.right (And.right (And.right (And.right (And.right (And.right (And.right (And.right (And.right (And.right (And.right (And.right (And.right (And.right (And.right (And.right (And.right (And.right (And.right (And.right (And.right (And.right (And.right he))))))))))))))))))))))))))))))))))))
      have d37 : (x 37) = undef := And.left (And.right (And.right (And.right (And.right (And.right (And.right (And.right (And.right (And.right (And.right (And.right (And.right (And.right (And.right (And.right (And.right (And.right (And.right (And.right (And.right (And.right (And.right (And.right (And.right (And.right (And.right (And.right (And.right (And.right (And.right (And.right (And.right (And.right (And.right (And.right (And.right (And.right he)))))))))))))))))))))))))))))))))))))
      have d38 : (x 38) = .bool true := And.left (And.right (And.right (And.right (And.right (And.right (And.right (And.right (And.right (And.right (And.right (And.right (And.right (And.right (And.right (And.right (And.right (And.right (And.right (And.right (And.right (And.right (And.right (And.right (And.right (And.right (And.right (And.right (And.right (And.right (And.right (And.right (And.right (And.right (And.right (And.right (And.right (And.right (And.right he))))))))))))))))))))))))))))))))))))))
      have d39 : (x 39) = .bool true := And.left (And.right (And.right (And.right (And.right (And.right (And.right (And.right (And.right (And.right (And.right (And.right (And.right (And.right (And.right (And.right (And.right (And.right (And.right (And.right (And.right (And.right (And.right (And.right (And.right (And.right (And.right (And.right (And.right (And.right (And.right (And.right (And.right (And.right (And.right (And.right (And.right (And.right (And.right (And.right he)))))))))))))))))))))))))))))))))))))))
      have d40 : (x 40) = .bool true := And.left (And.right (And.right (And.right (And.right (And.right (And.right (And.right (And.right (And.right (And.right (And.right (And.right (And.right (And.right (And.right (And.right (And.right (And.right (And.right (And.right (And.right (And.right (And.right (And.right (And.right (And.right (And.right (And.right (And.right (And.right (And.right (And.right (And.right (And.right (And.right (And.right (And.right (And.right (And.right (And.right he))))))))))))))))))))))))))))))))))))))))
      have d41 : (x 41) = .bool true := And.left (And.right (And.right (And.right (And.right (And.right (And.right (And.right (And.right (And.right (And.right (And.right (And.right (And.right (And.right (And.right (And.right (And.right (And.right (And.right (And.right (And.right (And.right (And.right (And.right (And.right (And.right (And.right (And.right (And.right (And.right (And.right (And.right (And.right (And.right (And.right (And.right (And.right (And.right (And.right (And.right (And.right he)))))))))))))))))))))))))))))))))))))))))
      have d42 : (x 42) = .bool true := And.left (And.right (And.right (And.right (And.right (And.right (And.right (And.right (And.right (And.right (And.right (And.right (And.right (And.right (And.right (And.right (And.right (And.right (And.right (And.right (And.right (And.right (And.right (And.right (And.right (And.right (And.right (And.right (And.right (And.right (And.right (And.right (And.right (And.right (And.right (And.right (And.right (And.right (And.right (And.right (And.right (And.right (And.right he))))))))))))))))))))))))))))))))))))))))))
      clear he
      refine ⟨?_⟩
      simp only [putsFrom, Act.put, List.setIfInBounds_toArray, List.set_cons_zero, List.set_cons_succ, Nat.reduceAdd, d0, d1, d2, d3, d4, d5, d6, d7, d8, d9, d10, d11, d12, d13, d14, d15, d16, d17, d18, d19, d20, d21, d22, d23, d24, d25, d26, d27, d28, d29, d30, d31, d32, d33, d34, d35, d36, d37, d38, d39, d40, d41, d42]
      clear d0 d1 d2 d3 d4 d5 d6 d7 d8 d9 d10 d11 d12 d13 d14 d15 d16 d17 d18 d19 d20 d21 d22 d23 d24 d25 d26 d27 d28 d29 d30 d31 d32 d33 d34 d35 d36 d37 d38 d39 d40 d41 d42
      go_wp2_with fail
      go_ret
      exact ⟨rfl, Below.trans KW.out (Below.mono hg.k (Below.size KW.out))⟩
    · have z0 : ((a0.l.length : Int) == 0) = false := by rw [beq_eq_false_iff_ne]; omega
      have q1 : 0 < pm.l.length := by rw [hpl]; omega
      have q2 : 0 < a0.l.length := by omega
      obtain ⟨z, hz⟩ : ∃ z, a0.l.getD 0 0 = z := ⟨_, rfl⟩
      obtain ⟨_, _, Ar, cr, er, _, hcr⟩ := RL.out
      obtain ⟨b, off, e1, hb, hcb⟩ := hcr (by omega)
      have ez := hcb 0 (by omega)
      rw [hz, Nat.add_zero] at ez
      have eA : A0 = some ⟨b, off, none⟩ := by injection er with e2 _ _; rw [e2, e1]
      have hq := (OQ.out.rd (by rw [hpl]; have := HOK.out.2.2.2; omega) (by rw [hpl]; exact HR.out))
      obtain ⟨_, _, Aw, cw, ew, _, hcw⟩ := hq
      obtain ⟨gr, off2, e3, hbr, hcg⟩ := hcw q1
      have eq2 : Aq = some ⟨gr, off2, none⟩ := by injection ew with e2 _ _; rw [e2, e3]
      have eo : off2 = 0 := by
        rcases OQ.out.2 with ⟨e4, _⟩ | ⟨g4, _, _, e4, _⟩
        · rw [eq2] at e4; cases e4
        · rw [eq2] at e4; injection e4 with e5 _ _; injection e5 with e6; injection e6
      subst eo
      have ez2 := hcg 0 q1
      rw [hpl, hz, Nat.add_zero] at ez2
      subst eA
      subst eq2
      have F2 : W.cell? ⟨gr, 0, none⟩ = some (.int .i64 z) ∧ W.cell? ⟨b, off, none⟩ = some (.int .i64 z) := ⟨ez2, ez⟩
      clear hk hpl h0 hz er hcr e1 hcb ez ew hcw e3 hcg ez2
      refine wp_region_kp [[], [0], [1], [2], [3], [4], [4, 5], [4], [4, 7], [4, 6, 8], [4, 9], [10], [11], [11, 12], [11, 13], [11, 14], [15], [15, 16], [15, 17], [15], [15, 19], [15, 20], [15, 18, 21], [15, 22], [23], [23, 24], [23, 25], [23, 26], [23, 27], [28], [28, 29], [28, 30], [28, 31], [28], [28, 33], [28, 34], [28, 35], [28, 32, 36], [23, 28, 37], [15, 23, 38], [11, 15, 39], [11, 40], [41]] (fun u => HeldM W w.heap.size w8.heap.size w9.heap.size a0 pm (.slice (some ⟨b, off, none⟩) a0.l.length c0) (.slice (some ⟨g, 0, none⟩) a0.l.length (a0.l.length + 2)) (.slice (some ⟨gr, 0, none⟩) pm.l.length cq) (.slice Ax 1 cx) u ∧ u.cell? ⟨gr, 0, none⟩ = some (.int .i64 z) ∧ u.cell? ⟨b, off, none⟩ = some (.int .i64 z) ∧ gr < u.heap.size ∧ b < u.heap.size)
        [fun (y : Value) (u : World) => y = (.pointer (some ⟨w9.heap.size, 3, none⟩) : Value),
         fun (y : Value) (u : World) => y = (.slice Ax 1 cx : Value),
         fun (y : Value) (u : World) => y = (.int .i64 1 : Value),
         fun (y : Value) (u : World) => y = (.bool true : Value),
         fun (y : Value) (u : World) => y = (.bool true : Value),
         fun (y : Value) (u : World) => y = (.pointer (some ⟨w.heap.size + 1, 3, none⟩) : Value),
         fun (y : Value) (u : World) => y = (.slice (some ⟨g, 0, none⟩) a0.l.length (a0.l.length + 2) : Value),
         fun (y : Value) (u : World) => y = (.pointer (some ⟨w.heap.size, 3, none⟩) : Value),
         fun (y : Value) (u : World) => y = (.slice (some ⟨b, off, none⟩) a0.l.length c0 : Value),
         fun (y : Value) (u : World) => y = (.bool true : Value),
         fun (y : Value) (u : World) => y = (.bool true : Value),
         fun (y : Value) (u : World) => y = (.bool true : Value),
         fun (y : Value) (u : World) => y = (.pointer (some ⟨w.heap.size, 0, none⟩) : Value),
         fun (y : Value) (u : World) => y = (.int .i64 a0.k : Value),
         fun (y : Value) (u : World) => y = (.bool false : Value),
         fun (y : Value) (u : World) => y = (.bool false : Value),
         fun (y : Value) (u : World) => y = (.pointer (some ⟨w8.heap.size, 3, none⟩) : Value),
         fun (y : Value) (u : World) => y = (.slice (some ⟨gr, 0, none⟩) pm.l.length cq : Value),
         fun (y : Value) (u : World) => y = (.int .i64 (pm.l.length : Int) : Value),
         fun (y : Value) (u : World) => y = (.pointer (some ⟨w.heap.size, 3, none⟩) : Value),
         fun (y : Value) (u : World) => y = (.slice (some ⟨b, off, none⟩) a0.l.length c0 : Value),
         fun (y : Value) (u : World) => y = (.int .i64 (a0.l.length : Int) : Value),
         fun (y : Value) (u : World) => y = (.bool true : Value),
         fun (y : Value) (u : World) => y = (.bool true : Value),
         fun (y : Value) (u : World) => y = (.pointer (some ⟨w.heap.size, 3, none⟩) : Value),
         fun (y : Value) (u : World) => y = (.slice (some ⟨b, off, none⟩) a0.l.length c0 : Value),
         fun (y : Value) (u : World) => y = (.int .i64 (a0.l.length : Int) : Value),
         fun (y : Value) (u : World) => y = (.bool false : Value),
         fun (y : Value) (u : World) => y = (.bool false : Value),
         fun (y : Value) (u : World) => y = (.pointer (some ⟨w8.heap.size, 3, none⟩) : Value),
         fun (y : Value) (u : World) => y = (.slice (some ⟨gr, 0, none⟩) pm.l.length cq : Value),
         fun (y : Value) (u : World) => y = (.pointer (some ⟨gr, 0, none⟩) : Value),
         fun (y : Value) (u : World) => y = (.int .i64 z : Value),
         fun (y : Value) (u : World) => y = (.pointer (some ⟨w.heap.size, 3, none⟩) : Value),
         fun (y : Value) (u : World) => y = (.slice (some ⟨b, off, none⟩) a0.l.length c0 : Value),
         fun (y : Value) (u : World) => y = (.pointer (some ⟨b, off, none⟩) : Value),
         fun (y : Value) (u : World) => y = (.int .i64 z : Value),
         fun (y : Value) (u : World) => y = (.bool true : Value),
         fun (y : Value) (u : World) => y = (.bool true : Value),
         fun (y : Value) (u : World) => y = (.bool true : Value),
         fun (y : Value) (u : World) => y = (.bool true : Value),
         fun (y : Value) (u : World) => y = (.bool true : Value),
         fun (y : Value) (u : World) => y = (.bool true : Value)]
        (by kernel_rfl) (by kernel_rfl) (by kernel_rfl) (by kernel_rfl) (⟨F', cell_kp (Kp.refl W).drew hbr F2.1, cell_kp (Kp.refl W).drew hb F2.2, hbr, hb⟩) (fun _ _ hk h => ⟨h.1.kp hk, cell_kp hk h.2.2.2.1 h.2.1, cell_kp hk h.2.2.2.2 h.2.2.1, Nat.lt_of_lt_of_le h.2.2.2.1 hk.le, Nat.lt_of_lt_of_le h.2.2.2.2 hk.le⟩) ⟨fun _ _ _ _ h => h, fun _ _ _ _ h => h, fun _ _ _ _ h => h, fun _ _ _ _ h => h, fun _ _ _ _ h => h, fun _ _ _ _ h => h, fun _ _ _ _ h => h, fun _ _ _ _ h => h, fun _ _ _ _ h => h, fun _ _ _ _ h => h, fun _ _ _ _ h => h, fun _ _ _ _ h => h, fun _ _ _ _ h => h, fun _ _ _ _ h => h, fun _ _ _ _ h => h, fun _ _ _ _ h => h, fun _ _ _ _ h => h, fun _ _ _ _ h => h, fun _ _ _ _ h => h, fun _ _ _ _ h => h, fun _ _ _ _ h => h, fun _ _ _ _ h => h, fun _ _ _ _ h => h, fun _ _ _ _ h => h, fun _ _ _ _ h => h, fun _ _ _ _ h => h, fun _ _ _ _ h => h, fun _ _ _ _ h => h, fun _ _ _ _ h => h, fun _ _ _ _ h => h, fun _ _ _ _ h => h, fun _ _ _ _ h => h, fun _ _ _ _ h => h, fun _ _ _ _ h => h, fun _ _ _ _ h => h, fun _ _ _ _ h => h, fun _ _ _ _ h => h, fun _ _ _ _ h => h, fun _ _ _ _ h => h, fun _ _ _ _ h => h, fun _ _ _ _ h => h, fun _ _ _ _ h => h, fun _ _ _ _ h => h, trivial⟩ ⟨?sc0, ?sc1, ?sc2, ?sc3, ?sc4, ?sc5, ?sc6, ?sc7, ?sc8, ?sc9, ?sc10, ?sc11, ?sc12, ?sc13, ?sc14, ?sc15, ?sc16, ?sc17, ?sc18, ?sc19, ?sc20, ?sc21, ?sc22, ?sc23, ?sc24, ?sc25, ?sc26, ?sc27, ?sc28, ?sc29, ?sc30, ?sc31, ?sc32, ?sc33, ?sc34, ?sc35, ?sc36, ?sc37, ?sc38, ?sc39, ?sc40, ?sc41, ?sc42, trivial⟩ ?hEc
      case sc0 =>
        intro x u hg hd K hK
        clear hd
        refine ⟨?_⟩
        simp only [putsFrom, Act.put, List.setIfInBounds_toArray, List.set_cons_zero, List.set_cons_succ, Nat.reduceAdd] at hK ⊢
        go_simp
        exact hK.out _ _ (Kp.refl _) rfl
      case sc1 =>
        intro x u hg hd K hK
        have d0 : (x 0) = .pointer (some ⟨w9.heap.size, 3, none⟩) := And.left hd
        clear hd
        refine ⟨?_⟩
        simp only [putsFrom, Act.put, List.setIfInBounds_toArray, List.set_cons_zero, List.set_cons_succ, Nat.reduceAdd, d0] at hK ⊢
        go_simp
        exact hK.out _ _ (Kp.refl _) rfl
      case sc2 =>
        intro x u hg hd K hK
        have d1 : (x 1) = .slice Ax 1 cx := And.left hd
        clear hd
        refine ⟨?_⟩
        simp only [putsFrom, Act.put, List.setIfInBounds_toArray, List.set_cons_zero, List.set_cons_succ, Nat.reduceAdd, d1] at hK ⊢
        go_simp
        exact hK.out _ _ (Kp.refl _) rfl
      case sc3 =>
        intro x u hg hd K hK
        have d2 : (x 2) = .int .i64 1 := And.left hd
        clear hd
        refine ⟨?_⟩
        simp only [putsFrom, Act.put, List.setIfInBounds_toArray, List.set_cons_zero, List.set_cons_succ, Nat.reduceAdd, d2] at hK ⊢
        go_simp
        exact hK.out _ _ (Kp.refl _) rfl
      case sc4 =>
        intro x u hg hd K hK
        have d3 : (x 3) = .bool true := And.left hd
        clear hd
        refine ⟨?_⟩
        simp only [putsFrom, Act.put, List.setIfInBounds_toArray, List.set_cons_zero, List.set_cons_succ, Nat.reduceAdd, d3] at hK ⊢
        go_simp
        exact hK.out _ _ (Kp.refl _) rfl
      case sc5 =>
        intro x u hg hd K hK
        have d4 : (x 4) = .bool true := And.left hd
        clear hd
        refine ⟨?_⟩
        simp only [putsFrom, Act.put, List.setIfInBounds_toArray, List.set_cons_zero, List.set_cons_succ, Nat.reduceAdd, d4] at hK ⊢
        go_simp
        exact hK.out _ _ (Kp.refl _) rfl
      case sc6 =>
        intro x u hg hd K hK
        have d4 : (x 4) = .bool true := And.left hd
        have d5 : (x 5) = .pointer (some ⟨w.heap.size + 1, 3, none⟩) := And.left (And.right hd)
        clear hd
        refine ⟨?_⟩
        simp only [putsFrom, Act.put, List.setIfInBounds_toArray, List.set_cons_zero, List.set_cons_succ, Nat.reduceAdd, d4, d5] at hK ⊢
        go_simp
        exact hK.out _ _ (Kp.refl _) rfl
      case sc7 =>
        intro x u hg hd K hK
        have d4 : (x 4) = .bool true := And.left hd
        clear hd
        refine ⟨?_⟩
        simp only [putsFrom, Act.put, List.setIfInBounds_toArray, List.set_cons_zero, List.set_cons_succ, Nat.reduceAdd, d4] at hK ⊢
        go_simp
        exact hK.out _ _ (Kp.refl _) rfl
      case sc8 =>
        intro x u hg hd K hK
        have d4 : (x 4) = .bool true := And.left hd
        have d7 : (x 7) = .pointer (some ⟨w.heap.size, 3, none⟩) := And.left (And.right hd)
        clear hd
        refine ⟨?_⟩
        simp only [putsFrom, Act.put, List.setIfInBounds_toArray, List.set_cons_zero, List.set_cons_succ, Nat.reduceAdd, d4, d7] at hK ⊢
        go_simp
        exact hK.out _ _ (Kp.refl _) rfl
      case sc9 =>
        intro x u hg hd K hK
        have d4 : (x 4) = .bool true := And.left hd
        have d6 : (x 6) = .slice (some ⟨g, 0, none⟩) a0.l.length (a0.l.length + 2) := And.left (And.right hd)
        have d8 : (x 8) = .slice (some ⟨b, off, none⟩) a0.l.length c0 := And.left (And.right (And.right hd))
        clear hd
        refine ⟨?_⟩
        simp only [putsFrom, Act.put, List.setIfInBounds_toArray, List.set_cons_zero, List.set_cons_succ, Nat.reduceAdd, d4, d6, d8] at hK ⊢
        go_simp
        go_at_call 37
        have hc := stayed_any g _ a0.l u (MZ.out.kp hg.1.k) (RL.out.kp hg.1.k)
        refine hc.mono ?_
        clear hc
        rintro e u' ⟨rfl, hk⟩
        dsimp only
        exact hK.out _ _ hk rfl
      case sc10 =>
        intro x u hg hd K hK
        have d4 : (x 4) = .bool true := And.left hd
        have d9 : (x 9) = .bool true := And.left (And.right hd)
        clear hd
        refine ⟨?_⟩
        simp only [putsFrom, Act.put, List.setIfInBounds_toArray, List.set_cons_zero, List.set_cons_succ, Nat.reduceAdd, d4, d9] at hK ⊢
        go_simp
        exact hK.out _ _ (Kp.refl _) rfl
      case sc11 =>
        intro x u hg hd K hK
        have d10 : (x 10) = .bool true := And.left hd
        clear hd
        refine ⟨?_⟩
        simp only [putsFrom, Act.put, List.setIfInBounds_toArray, List.set_cons_zero, List.set_cons_succ, Nat.reduceAdd, d10] at hK ⊢
        go_simp
        exact hK.out _ _ (Kp.refl _) rfl
      case sc12 =>
        intro x u hg hd K hK
        have d11 : (x 11) = .bool true := And.left hd
        clear hd
        refine ⟨?_⟩
        simp only [putsFrom, Act.put, List.setIfInBounds_toArray, List.set_cons_zero, List.set_cons_succ, Nat.reduceAdd, d11] at hK ⊢
        go_simp
        exact hK.out _ _ (Kp.refl _) rfl
      case sc13 =>
        intro x u hg hd K hK
        have d11 : (x 11) = .bool true := And.left hd
        have d12 : (x 12) = .pointer (some ⟨w.heap.size, 0, none⟩) := And.left (And.right hd)
        clear hd
        refine ⟨?_⟩
        simp only [putsFrom, Act.put, List.setIfInBounds_toArray, List.set_cons_zero, List.set_cons_succ, Nat.reduceAdd, d11, d12] at hK ⊢
        go_simp
        exact hK.out _ _ (Kp.refl _) rfl
      case sc14 =>
        intro x u hg hd K hK
        have d11 : (x 11) = .bool true := And.left hd
        have d13 : (x 13) = .int .i64 a0.k := And.left (And.right hd)
        clear hd
        refine ⟨?_⟩
        simp only [putsFrom, Act.put, List.setIfInBounds_toArray, List.set_cons_zero, List.set_cons_succ, Nat.reduceAdd, d11, d13] at hK ⊢
        go_simp
        exact hK.out _ _ (Kp.refl _) rfl
      case sc15 =>
        intro x u hg hd K hK
        have d11 : (x 11) = .bool true := And.left hd
        have d14 : (x 14) = .bool false := And.left (And.right hd)
        clear hd
        refine ⟨?_⟩
        simp only [putsFrom, Act.put, List.setIfInBounds_toArray, List.set_cons_zero, List.set_cons_succ, Nat.reduceAdd, d11, d14] at hK ⊢
        go_simp
        exact hK.out _ _ (Kp.refl _) rfl
      case sc16 =>
        intro x u hg hd K hK
        have d15 : (x 15) = .bool false := And.left hd
        clear hd
        refine ⟨?_⟩
        simp only [putsFrom, Act.put, List.setIfInBounds_toArray, List.set_cons_zero, List.set_cons_succ, Nat.reduceAdd, d15] at hK ⊢
        go_simp
        exact hK.out _ _ (Kp.refl _) rfl
      case sc17 =>
        intro x u hg hd K hK
        have d15 : (x 15) = .bool false := And.left hd
        have d16 : (x 16) = .pointer (some ⟨w8.heap.size, 3, none⟩) := And.left (And.right hd)
        clear hd
        refine ⟨?_⟩
        simp only [putsFrom, Act.put, List.setIfInBounds_toArray, List.set_cons_zero, List.set_cons_succ, Nat.reduceAdd, d15, d16] at hK ⊢
        go_simp
        exact hK.out _ _ (Kp.refl _) rfl
      case sc18 =>
        intro x u hg hd K hK
        have d15 : (x 15) = .bool false := And.left hd
        have d17 : (x 17) = .slice (some ⟨gr, 0, none⟩) pm.l.length cq := And.left (And.right hd)
        clear hd
        refine ⟨?_⟩
        simp only [putsFrom, Act.put, List.setIfInBounds_toArray, List.set_cons_zero, List.set_cons_succ, Nat.reduceAdd, d15, d17] at hK ⊢
        go_simp
        exact hK.out _ _ (Kp.refl _) rfl
      case sc19 =>
        intro x u hg hd K hK
        have d15 : (x 15) = .bool false := And.left hd
        clear hd
        refine ⟨?_⟩
        simp only [putsFrom, Act.put, List.setIfInBounds_toArray, List.set_cons_zero, List.set_cons_succ, Nat.reduceAdd, d15] at hK ⊢
        go_simp
        exact hK.out _ _ (Kp.refl _) rfl
      case sc20 =>
        intro x u hg hd K hK
        have d15 : (x 15) = .bool false := And.left hd
        have d19 : (x 19) = .pointer (some ⟨w.heap.size, 3, none⟩) := And.left (And.right hd)
        clear hd
        refine ⟨?_⟩
        simp only [putsFrom, Act.put, List.setIfInBounds_toArray, List.set_cons_zero, List.set_cons_succ, Nat.reduceAdd, d15, d19] at hK ⊢
        go_simp
        exact hK.out _ _ (Kp.refl _) rfl
      case sc21 =>
        intro x u hg hd K hK
        have d15 : (x 15) = .bool false := And.left hd
        have d20 : (x 20) = .slice (some ⟨b, off, none⟩) a0.l.length c0 := And.left (And.right hd)
        clear hd
        refine ⟨?_⟩
        simp only [putsFrom, Act.put, List.setIfInBounds_toArray, List.set_cons_zero, List.set_cons_succ, Nat.reduceAdd, d15, d20] at hK ⊢
        go_simp
        exact hK.out _ _ (Kp.refl _) rfl
      case sc22 =>
        intro x u hg hd K hK
        have d15 : (x 15) = .bool false := And.left hd
        have d18 : (x 18) = .int .i64 (pm.l.length : Int) := And.left (And.right hd)
        have d21 : (x 21) = .int .i64 (a0.l.length : Int) := And.left (And.right (And.right hd))
        clear hd
        refine ⟨?_⟩
        simp only [putsFrom, Act.put, List.setIfInBounds_toArray, List.set_cons_zero, List.set_cons_succ, Nat.reduceAdd, d15, d18, d21] at hK ⊢
        go_simp
        exact hK.out _ _ (Kp.refl _) rfl
      case sc23 =>
        intro x u hg hd K hK
        have d15 : (x 15) = .bool false := And.left hd
        have d22 : (x 22) = .bool true := And.left (And.right hd)
        clear hd
        refine ⟨?_⟩
        simp only [putsFrom, Act.put, List.setIfInBounds_toArray, List.set_cons_zero, List.set_cons_succ, Nat.reduceAdd, d15, d22] at hK ⊢
        go_simp
        exact hK.out _ _ (Kp.refl _) rfl
      case sc24 =>
        intro x u hg hd K hK
        have d23 : (x 23) = .bool true := And.left hd
        clear hd
        refine ⟨?_⟩
        simp only [putsFrom, Act.put, List.setIfInBounds_toArray, List.set_cons_zero, List.set_cons_succ, Nat.reduceAdd, d23] at hK ⊢
        go_simp
        exact hK.out _ _ (Kp.refl _) rfl
      case sc25 =>
        intro x u hg hd K hK
        have d23 : (x 23) = .bool true := And.left hd
        have d24 : (x 24) = .pointer (some ⟨w.heap.size, 3, none⟩) := And.left (And.right hd)
        clear hd
        refine ⟨?_⟩
        simp only [putsFrom, Act.put, List.setIfInBounds_toArray, List.set_cons_zero, List.set_cons_succ, Nat.reduceAdd, d23, d24] at hK ⊢
        go_simp
        exact hK.out _ _ (Kp.refl _) rfl
      case sc26 =>
        intro x u hg hd K hK
        have d23 : (x 23) = .bool true := And.left hd
        have d25 : (x 25) = .slice (some ⟨b, off, none⟩) a0.l.length c0 := And.left (And.right hd)
        clear hd
        refine ⟨?_⟩
        simp only [putsFrom, Act.put, List.setIfInBounds_toArray, List.set_cons_zero, List.set_cons_succ, Nat.reduceAdd, d23, d25] at hK ⊢
        go_simp
        exact hK.out _ _ (Kp.refl _) rfl
      case sc27 =>
        intro x u hg hd K hK
        have d23 : (x 23) = .bool true := And.left hd
        have d26 : (x 26) = .int .i64 (a0.l.length : Int) := And.left (And.right hd)
        clear hd
        refine ⟨?_⟩
        simp only [putsFrom, Act.put, List.setIfInBounds_toArray, List.set_cons_zero, List.set_cons_succ, Nat.reduceAdd, d23, d26] at hK ⊢
        go_simp
        exact hK.out _ _ (Kp.refl _) rfl
      case sc28 =>
        intro x u hg hd K hK
        have d23 : (x 23) = .bool true := And.left hd
        have d27 : (x 27) = .bool false := And.left (And.right hd)
        clear hd
        refine ⟨?_⟩
        simp only [putsFrom, Act.put, List.setIfInBounds_toArray, List.set_cons_zero, List.set_cons_succ, Nat.reduceAdd, d23, d27] at hK ⊢
        go_simp
        exact hK.out _ _ (Kp.refl _) rfl
      case sc29 =>
        intro x u hg hd K hK
        have d28 : (x 28) = .bool false := And.left hd
        clear hd
        refine ⟨?_⟩
        simp only [putsFrom, Act.put, List.setIfInBounds_toArray, List.set_cons_zero, List.set_cons_succ, Nat.reduceAdd, d28] at hK ⊢
        go_simp
        exact hK.out _ _ (Kp.refl _) rfl
      case sc30 =>
        intro x u hg hd K hK
        have d28 : (x 28) = .bool false := And.left hd
        have d29 : (x 29) = .pointer (some ⟨w8.heap.size, 3, none⟩) := And.left (And.right hd)
        clear hd
        refine ⟨?_⟩
        simp only [putsFrom, Act.put, List.setIfInBounds_toArray, List.set_cons_zero, List.set_cons_succ, Nat.reduceAdd, d28, d29] at hK ⊢
        go_simp
        exact hK.out _ _ (Kp.refl _) rfl
      case sc31 =>
        intro x u hg hd K hK
        have d28 : (x 28) = .bool false := And.left hd
        have d30 : (x 30) = .slice (some ⟨gr, 0, none⟩) pm.l.length cq := And.left (And.right hd)
        clear hd
        refine ⟨?_⟩
        simp only [putsFrom, Act.put, List.setIfInBounds_toArray, List.set_cons_zero, List.set_cons_succ, Nat.reduceAdd, d28, d30] at hK ⊢
        go_simp
        exact hK.out _ _ (Kp.refl _) rfl
      case sc32 =>
        intro x u hg hd K hK
        have d28 : (x 28) = .bool false := And.left hd
        have d31 : (x 31) = .pointer (some ⟨gr, 0, none⟩) := And.left (And.right hd)
        clear hd
        refine ⟨?_⟩
        simp only [putsFrom, Act.put, List.setIfInBounds_toArray, List.set_cons_zero, List.set_cons_succ, Nat.reduceAdd, d28, d31] at hK ⊢
        go_simp
        exact hK.out _ _ (Kp.refl _) rfl
      case sc33 =>
        intro x u hg hd K hK
        have d28 : (x 28) = .bool false := And.left hd
        clear hd
        refine ⟨?_⟩
        simp only [putsFrom, Act.put, List.setIfInBounds_toArray, List.set_cons_zero, List.set_cons_succ, Nat.reduceAdd, d28] at hK ⊢
        go_simp
        exact hK.out _ _ (Kp.refl _) rfl
      case sc34 =>
        intro x u hg hd K hK
        have d28 : (x 28) = .bool false := And.left hd
        have d33 : (x 33) = .pointer (some ⟨w.heap.size, 3, none⟩) := And.left (And.right hd)
        clear hd
        refine ⟨?_⟩
        simp only [putsFrom, Act.put, List.setIfInBounds_toArray, List.set_cons_zero, List.set_cons_succ, Nat.reduceAdd, d28, d33] at hK ⊢
        go_simp
        exact hK.out _ _ (Kp.refl _) rfl
      case sc35 =>
        intro x u hg hd K hK
        have d28 : (x 28) = .bool false := And.left hd
        have d34 : (x 34) = .slice (some ⟨b, off, none⟩) a0.l.length c0 := And.left (And.right hd)
        clear hd
        refine ⟨?_⟩
        simp only [putsFrom, Act.put, List.setIfInBounds_toArray, List.set_cons_zero, List.set_cons_succ, Nat.reduceAdd, d28, d34] at hK ⊢
        go_simp
        exact hK.out _ _ (Kp.refl _) rfl
      case sc36 =>
        intro x u hg hd K hK
        have d28 : (x 28) = .bool false := And.left hd
        have d35 : (x 35) = .pointer (some ⟨b, off, none⟩) := And.left (And.right hd)
        clear hd
        refine ⟨?_⟩
        simp only [putsFrom, Act.put, List.setIfInBounds_toArray, List.set_cons_zero, List.set_cons_succ, Nat.reduceAdd, d28, d35] at hK ⊢
        go_simp
        exact hK.out _ _ (Kp.refl _) rfl
      case sc37 =>
        intro x u hg hd K hK
        have d28 : (x 28) = .bool false := And.left hd
        have d32 : (x 32) = .int .i64 z := And.left (And.right hd)
        have d36 : (x 36) = .int .i64 z := And.left (And.right (And.right hd))
        clear hd
        refine ⟨?_⟩
        simp only [putsFrom, Act.put, List.setIfInBounds_toArray, List.set_cons_zero, List.set_cons_succ, Nat.reduceAdd, d28, d32, d36] at hK ⊢
        go_simp
        exact hK.out _ _ (Kp.refl _) rfl
      case sc38 =>
        intro x u hg hd K hK
        have d23 : (x 23) = .bool true := And.left hd
        have d28 : (x 28) = .bool false := And.left (And.right hd)
        have d37 : (x 37) = .bool true := And.left (And.right (And.right hd))
        clear hd
        refine ⟨?_⟩
        simp only [putsFrom, Act.put, List.setIfInBounds_toArray, List.set_cons_zero, List.set_cons_succ, Nat.reduceAdd, d23, d28, d37] at hK ⊢
        go_simp
        exact hK.out _ _ (Kp.refl _) rfl
      case sc39 =>
        intro x u hg hd K hK
        have d15 : (x 15) = .bool false := And.left hd
        have d23 : (x 23) = .bool true := And.left (And.right hd)
        have d38 : (x 38) = .bool true := And.left (And.right (And.right hd))
        clear hd
        refine ⟨?_⟩
        simp only [putsFrom, Act.put, List.setIfInBounds_toArray, List.set_cons_zero, List.set_cons_succ, Nat.reduceAdd, d15, d23, d38] at hK ⊢
        go_simp
        exact hK.out _ _ (Kp.refl _) rfl
      case sc40 =>
        intro x u hg hd K hK
        have d11 : (x 11) = .bool true := And.left hd
        have d15 : (x 15) = .bool false := And.left (And.right hd)
        have d39 : (x 39) = .bool true := And.left (And.right (And.right hd))
        clear hd
        refine ⟨?_⟩
        simp only [putsFrom, Act.put, List.setIfInBounds_toArray, List.set_cons_zero, List.set_cons_succ, Nat.reduceAdd, d11, d15, d39] at hK ⊢
        go_simp
        exact hK.out _ _ (Kp.refl _) rfl
      case sc41 =>
        intro x u hg hd K hK
        have d11 : (x 11) = .bool true := And.left hd
        have d40 : (x 40) = .bool true := And.left (And.right hd)
        clear hd
        refine ⟨?_⟩
        simp only [putsFrom, Act.put, List.setIfInBounds_toArray, List.set_cons_zero, List.set_cons_succ, Nat.reduceAdd, d11, d40] at hK ⊢
        go_simp
        exact hK.out _ _ (Kp.refl _) rfl
      case sc42 =>
        intro x u hg hd K hK
        have d41 : (x 41) = .bool true := And.left hd
        clear hd
        refine ⟨?_⟩
        simp only [putsFrom, Act.put, List.setIfInBounds_toArray, List.set_cons_zero, List.set_cons_succ, Nat.reduceAdd, d41] at hK ⊢
        go_simp
        exact hK.out _ _ (Kp.refl _) rfl
      intro x u hg he
      have d0 : (x 0) = .pointer (some ⟨w9.heap.size, 3, none⟩) := And.left he
      have d1 : (x 1) = .slice Ax 1 cx := And.left (And.right he)
      have d2 : (x 2) = .int .i64 1 := And.left (And.right (And.right he))
      have d3 : (x 3) = .bool true := And.left (And.right (And.right (And.right he)))
      have d4 : (x 4) = .bool true := And.left (And.right (And.right (And.right (And.right he))))
      have d5 : (x 5) = .pointer (some ⟨w.heap.size + 1, 3, none⟩) := And.left (And.right (And.right (And.right (And.right (And.right he)))))
      have d6 : (x 6) = .slice (some ⟨g, 0, none⟩) a0.l.length (a0.l.length + 2) := And.left (And.right (And.right (And.right (And.right (And.right (And.right he))))))
      have d7 : (x 7) = .pointer (some ⟨w.heap.size, 3, none⟩) := And.left (And.right (And.right (And.right (And.right (And.right (And.right (And.right he)))))))
      have d8 : (x 8) = .slice (some ⟨b, off, none⟩) a0.l.length c0 := And.left (And.right (And.right (And.right (And.right (And.right (And.right (And.right (And.right he))))))))
      have d9 : (x 9) = .bool true := And.left (And.right (And.right (And.right (And.right (And.right (And.right (And.right (And.right (And.right he)))))))))
      have d10 : (x 10) = .bool true := And.left (And.right (And.right (And.right (And.right (And.right (And.right (And.right (And.right (And.right (And.right he))))))))))
      have d11 : (x 11) = .bool true := And.left (And.right (And.right (And.right (And.right (And.right (And.right (And.right (And.right (And.right (And.right (And.right he)))))))))))
      have d12 : (x 12) = .pointer (some ⟨w.heap.size, 0, none⟩) := And.left (And.right (And.right (And.right (And.right (And.right (And.right (And.right (And.right (And.right (And.right (And.right (And.right he))))))))))))
      have d13 : (x 13) = .int .i64 a0.k := And.left (And.right (And.right (And.right (And.right (And.right (And.right (And.right (And.right (And.right (And.right (And.right (And.right (And.right he)))))))))))))
      have d14 : (x 14) = .bool false := And.left (And.right (And.right (And.right (And.right (And.right (And.right (And.right (And.right (And.right (And.right (And.right (And.right (And.right (And.right he))))))))))))))
      have d15 : (x 15) = .bool false := And.left (And.right (And.right (And.right (And.right (And.right (And.right (And.right (And.right (And.right (And.right (And.right (And.right (And.right (And.right (And.right he)))))))))))))))
      have d16 : (x 16) = .pointer (some ⟨w8.heap.size, 3, none⟩) := And.left (And.right (And.right (And.right (And.right (And.right (And.right (And.right (And.right (And.right (And.right (And.right (And.right (And.right (And.right (And.right (And.right he))))))))))))))))
      have d17 : (x 17) = .slice (some ⟨gr, 0, none⟩) pm.l.length cq := And.left (And.right (And.right (And.right (And.right (And.right (And.right (And.right (And.right (And.right (And.right (And.right (And.right (And.right (And.right (And.right (And.right (And.right he)))))))))))))))))
      have d18 : (x 18) = .int .i64 (pm.l.length : Int) := And.left (And.right (And.right (And.right (And.right (And.right (And.right (And.right (And.right (And.right (And.right (And.right (And.right (And.right (And.right (And.right (And.right (And.right (And.right he))))))))))))))))))
      have d19 : (x 19) = .pointer (some ⟨w.heap.size, 3, none⟩) := And.left (And.right (And.right (And.right (And.right (And.right (And.right (And.right (And.right (And.right (And.right (And.right (And.right (And.right (And.right (And.right (And.right (And.right (And.right (And.right he)))))))))))))))))))
      have d20 : (x 20) = .slice (some ⟨b, off, none⟩) a0.l.length c0 := And.left (And.right (And.right (And.right (And.right (And.right (And.right (And.right (And.right (And.right (And.right (And.right (And.right (And.right (And.right (And.right (And.right (And.right (And.right (And.right (And.right he))))))))))))))))))))
      have d21 : (x 21) = .int .i64 (a0.l.length : Int) := And.left (And.right (And.right (And.right (And.right (And.right (And.right (And.right (And.right (And.right (And.right (And.right (And.right (And.right (And.right (And.right (And.right (And.right (And.right (And.right (And.right (And.right he)))))))))))))))))))))
      have d22 : (x 22) = .bool true := And.left (And.right (And.right (And.right (And.right (And.right (And.right (And.right (And.right (And.right (And.right (And.right (And.right (And.right (And.right (And.right (And.right (And.right (And.right (And.right (And.right (And.right (And.right he))))))))))))))))))))))
      have d23 : (x 23) = .bool true := And.left (And.right (And.right (And.right (And.right (And.right (And.right (And.right (And.right (And.right (And.right (And.right (And.right (And.right (And.right (And.right (And.right (And.right (And.right (And.right (And.right (And.right (And.right (And.right he)))))))))))))))))))))))
      have d24 : (x 24) = .pointer (some ⟨w.heap.size, 3, none⟩) := And.left (And.right (And.right (And.right (And.right (And.right (And.right (And.right (And.right (And.right (And.right (And.right (And.right (And.right (And.right (And.right (And.right (And.right (And.right (And.right (And.right (And.right (And.right (And.right (And.right he))))))))))))))))))))))))
      have d25 : (x 25) = .slice (some ⟨b, off, none⟩) a0.l.length c0 := And.left (And.right (And.right (And.right (And.right (And.right (And.right (And.right (And.right (And.right (And.right (And.right (And.right (And.right (And.right (And.right (And.right (And.right (And.right (And.right (And.right (And.right (And.right (And.right (And.right (And.right he)))))))))))))))))))))))))
      have d26 : (x 26) = .int .i64 (a0.l.length : Int) := And.left (And.right (And.right (And.right (And.right (And.right (And.right (And.right (And.right (And.right (And.right (And.right (And.right (And.right (And.right (And.right (And.right (And.right (And.right (And.right (And.right (And.right (And.right (And.right (And.right (And.right (And.right he))))))))))))))))))))))))))
      have d27 : (x 27) = .bool false := And.left (And.right (And.right (And.right (And.right (And.right (And.right (And.right (And.right (And.right (And.right (And.right (And.right (And.right (And.right (And.right (And.right (And.right (And.right (And.right (And.right (And.right (And.right (And.right (And.right (And.right (And.right (And.right he)))))))))))))))))))))))))))
      have d28 : (x 28) = .bool false := And.left (And.right (And.right (And.right (And.right (And.right (And.right (And.right (And.right (And.right (And.right (And.right (And.right (And.right (And.right (And.right (And.right (And.right (And.right (And.right (And.right (And.right (And.right (And.right (And.right (And.right (And.right (And.right (And.right he))))))))))))))))))))))))))))
      have d29 : (x 29) = .pointer (some ⟨w8.heap.size, 3, none⟩) := And.left (And.right (And.right (And.right (And.right (And.right (And.right (And.right (And.right (And.right (And.right (And.right (And.right (And.right (And.right (And.right (And.right (And.right (And.right (And.right (And.right (And.right (And.right (And.right (And.right (And.right (And.right (And.right (And.right (And.right he)))))))))))))))))))))))))))))
      have d30 : (x 30) = .slice (some ⟨gr, 0, none⟩) pm.l.length cq := And.left (And.right (And.right (And.right (And.right (And.right (And.right (And.right (And.right (And.right (And.right (And.right (And.right (And.right (And.right (And.right (And.right (And.right (And.right (And.right (And.right (And.right (And.right (And.right (And.right (And.right (And.right (And.right (And.right (And.right (And.right he))))))))))))))))))))))))))))))
      have d31 : (x 31) = .pointer (some ⟨gr, 0, none⟩) := And.left (And.right (And.right (And.right (And.right (And.right (And.right (And.right (And.right (And.right (And.right (And.right (And.right (And.right (And.right (And.right (And.right (And.right (And.right (And.right (And.right (And.right (And.right (And.right (And.right (And.right (And.right (And.right (And.right (And.right (And.right (And.right he)))))))))))))))))))))))))))))))
      have d32 : (x 32) = .int .i64 z := And.left (And.right (And.right (And.right (And.right (And.right (And.right (And.right (And.right (And.right (And.right (And.right (And.right (And.right (And.right (And.right (And.right (And.right (And.right (And.right (And.right (And.right (And.right (And.right (And.right (And.right (And.right (And.right (And.right (And.right (And.right (And.right (And.right he))))))))))))))))))))))))))))))))
      have d33 : (x 33) = .pointer (some ⟨w.heap.size, 3, none⟩) := And.left (And.right (And.right (And.right (And.right (And.right (And.right (And.right (And.right (And.right (And.right (And.right (And.right (And.right (And.right (And.right (And.right (And.right (And.right (And.right (And.right (And.right (And.right (And.right (And.right (And.right (And.right (And.right (And.right (And.right (And.right (And.right (And.right (And.right he)))))))))))))))))))))))))))))))))
      have d34 : (x 34) = .slice (some ⟨b, off, none⟩) a0.l.length c0 := And.left (And.right (And.right (And.right (And.right (And.right (And.right (And.right (And.right (And.right (And.right (And.right (And.right (And.right (And.right (And.right (And.right (And.right (And.right (And.right (And.right (And.right (And.right (And.right (And.right (And.right (And.right (And.right (And.right (And.right (And.right (And.right (And.right (And.right (And.right he))))))))))))))))))))))))))))))))))
      have d35 : (x 35) = .pointer (some ⟨b, off, none⟩) := And.left (And.right (And.right (And.right (And.right (And.right (And.right (And.right (And.right (And.right (And.right (And.right (And.right (And.right (And.right (And.right (And.right (And.right (And.right (And.right (And.right (And.right (And.right (And.right (And.right (And.right (And.right (And.right (And.right (And.right (And.right (And.right (And.right (And.right (And.right (And.right he)))))))))))))))))))))))))))))))))))
      have d36 : (x 36) = .int .i64 z := And.left (And.right (And.right (And.right (And.right (And.right (And.right (And.right (And.right (And.right (And.right (And.right (And.right (And.right (And.right (And.right (And.right (And.right (And.right (And.right (And.right (And.right (And.right (And.right (And.right (And.right (And.right (And.right (And.right (And.right (And.right (And.right (And.right (And.right (And.right (And.right (And.right he))))))))))))))))))))))))))))))))))))
      have d37 : (x 37) = .bool true := And.left (And.right (And.right (And.right (And.right (And.right (And.right (And.right (And.right (And.right (And.right (And.right (And.right (And.right (And.right (And.right (And.right (And.right (And.right (And.right (And.right (And.right (And.right (And.right (And.right (And.right (And.right (And.right (And.right (And.right (And.right (And.right (And.right (And.right (And.right (And.right (And.right (And.right he)))))))))))))))))))))))))))))))))))))
      have d38 : (x 38) = .bool true := And.left (And.right (And.right (And.right (And.right (And.right (And.right (And.right (And.right (And.right (And.right (And.right (And.right (And.right (And.right (And.right (And.right (And.right (And.right (And.right (And.right (And.right (And.right (And.right (And.right (And.right (And.right (And.right (And.right (And.right (And.right (And.right (And.right (And.right (And.right (And.right (And.right (And.right (And.right he))))))))))))))))))))))))))))))))))))))
      have d39 : (x 39) = .bool true := And.left (And.right (And.right (And.right (And.right (And.right (And.right (And.right (And.right (And.right (And.right (And.right (And.right (And.right (And.right (And.right (And.right (And.right (And.right (And.right (And.right (And.right (And.right (And.right (And.right (And.right (And.right (And.right (And.right (And.right (And.right (And.right (And.right (And.right (And.right (And.right (And.right (And.right (And.right (And.right he)))))))))))))))))))))))))))))))))))))))
      have d40 : (x 40) = .bool true := And.left (And.right (And.right (And.right (And.right (And.right (And.right (And.right (And.right (And.right (And.right (And.right (And.right (And.right (And.right (And.right (And.right (And.right (And.right (And.right (And.right (And.right (And.right (And.right (And.right (And.right (And.right (And.right (And.right (And.right (And.right (And.right (And.right (And.right (And.right (And.right (And.right (And.right (And.right (And.right (And.right he))))))))))))))))))))))))))))))))))))))))
      have d41 : (x 41) = .bool true := And.left (And.right (And.right (And.right (And.right (And.right (And.right (And.right (And.right (And.right (And.right (And.right (And.right (And.right (And.right (And.right (And.right (And.right (And.right (And.right (And.right (And.right (And.right (And.right (And.right (And.right (And.right (And.right (And.right (And.right (And.right (And.right (And.right (And.right (And.right (And.right (And.right (And.right (And.right (And.right (And.right (And.right he)))))))))))))))))))))))))))))))))))))))))
      have d42 : (x 42) = .bool true := And.left (And.right (And.right (And.right (And.right (And.right (And.right (And.right (And.right (And.right (And.right (And.right (And.right (And.right (And.right (And.right (And.right (And.right (And.right (And.right (And.right (And.right (And.right (And.right (And.right (And.right (And.right (And.right (And.right (And.right (And.right (And.right (And.right (And.right (And.right (And.right (And.right (And.right (And.right (And.right (And.right (And.right (And.right he))))))))))))))))))))))))))))))))))))))))))
      clear he
      refine ⟨?_⟩
      simp only [putsFrom, Act.put, List.setIfInBounds_toArray, List.set_cons_zero, List.set_cons_succ, Nat.reduceAdd, d0, d1, d2, d3, d4, d5, d6, d7, d8, d9, d10, d11, d12, d13, d14, d15, d16, d17, d18, d19, d20, d21, d22, d23, d24, d25, d26, d27, d28, d29, d30, d31, d32, d33, d34, d35, d36, d37, d38, d39, d40, d41, d42]
      clear d0 d1 d2 d3 d4 d5 d6 d7 d8 d9 d10 d11 d12 d13 d14 d15 d16 d17 d18 d19 d20 d21 d22 d23 d24 d25 d26 d27 d28 d29 d30 d31 d32 d33 d34 d35 d36 d37 d38 d39 d40 d41 d42
      go_wp2_with fail
      go_ret
      exact ⟨rfl, Below.trans KW.out (Below.mono hg.1.k (Below.size KW.out))⟩
  · have n6 : (a0.k != 6) = true := by simp [hk]
    clear hk
    refine wp_region_kp [[], [0], [1], [2], [3], [4], [4, 5], [4], [4, 7], [4, 6, 8], [4, 9], [10], [11], [11, 12], [11, 13], [11, 14], [15], [15, 16], [15, 17], [15], [15, 19], [15, 20], [15, 18, 21], [15, 22], [23], [23, 24], [23, 25], [23, 26], [23, 27], [28], [28, 29], [28, 30], [28, 31], [28], [28, 33], [28, 34], [28, 35], [28, 32, 36], [23, 28, 37], [15, 23, 38], [11, 15, 39], [11, 40], [41]] (HeldM W w.heap.size w8.heap.size w9.heap.size a0 pm (.slice A0 a0.l.length c0) (.slice (some ⟨g, 0, none⟩) a0.l.length (a0.l.length + 2)) (.slice Aq pm.l.length cq) (.slice Ax 1 cx))
      [fun (y : Value) (u : World) => y = (.pointer (some ⟨w9.heap.size, 3, none⟩) : Value),
       fun (y : Value) (u : World) => y = (.slice Ax 1 cx : Value),
       fun (y : Value) (u : World) => y = (.int .i64 1 : Value),
       fun (y : Value) (u : World) => y = (.bool true : Value),
       fun (y : Value) (u : World) => y = (.bool true : Value),
       fun (y : Value) (u : World) => y = (.pointer (some ⟨w.heap.size + 1, 3, none⟩) : Value),
       fun (y : Value) (u : World) => y = (.slice (some ⟨g, 0, none⟩) a0.l.length (a0.l.length + 2) : Value),
       fun (y : Value) (u : World) => y = (.pointer (some ⟨w.heap.size, 3, none⟩) : Value),
       fun (y : Value) (u : World) => y = (.slice A0 a0.l.length c0 : Value),
       fun (y : Value) (u : World) => y = (.bool true : Value),
       fun (y : Value) (u : World) => y = (.bool true : Value),
       fun (y : Value) (u : World) => y = (.bool true : Value),
       fun (y : Value) (u : World) => y = (.pointer (some ⟨w.heap.size, 0, none⟩) : Value),
       fun (y : Value) (u : World) => y = (.int .i64 a0.k : Value),
       fun (y : Value) (u : World) => y = (.bool true : Value),
       fun (y : Value) (u : World) => y = (.bool true : Value),
       fun (y : Value) (u : World) => y = (undef : Value),
       fun (y : Value) (u : World) => y = (undef : Value),
       fun (y : Value) (u : World) => y = (undef : Value),
       fun (y : Value) (u : World) => y = (undef : Value),
       fun (y : Value) (u : World) => y = (undef : Value),
       fun (y : Value) (u : World) => y = (undef : Value),
       fun (y : Value) (u : World) => y = (undef : Value),
       fun (y : Value) (u : World) => y = (undef : Value),
       fun (y : Value) (u : World) => y = (undef : Value),
       fun (y : Value) (u : World) => y = (undef : Value),
       fun (y : Value) (u : World) => y = (undef : Value),
       fun (y : Value) (u : World) => y = (undef : Value),
       fun (y : Value) (u : World) => y = (undef : Value),
       fun (y : Value) (u : World) => y = (undef : Value),
       fun (y : Value) (u : World) => y = (undef : Value),
       fun (y : Value) (u : World) => y = (undef : Value),
       fun (y : Value) (u : World) => y = (undef : Value),
       fun (y : Value) (u : World) => y = (undef : Value),
       fun (y : Value) (u : World) => y = (undef : Value),
       fun (y : Value) (u : World) => y = (undef : Value),
       fun (y : Value) (u : World) => y = (undef : Value),
       fun (y : Value) (u : World) => y = (undef : Value),
       fun (y : Value) (u : World) => y = (undef : Value),
       fun (y : Value) (u : World) => y = (undef : Value),
       fun (y : Value) (u : World) => y = (.bool true : Value),
       fun (y : Value) (u : World) => y = (.bool true : Value),
       fun (y : Value) (u : World) => y = (.bool true : Value)]
      (by kernel_rfl) (by kernel_rfl) (by kernel_rfl) (by kernel_rfl) (F') (fun _ _ hk h => h.kp hk) ⟨fun _ _ _ _ h => h, fun _ _ _ _ h => h, fun _ _ _ _ h => h, fun _ _ _ _ h => h, fun _ _ _ _ h => h, fun _ _ _ _ h => h, fun _ _ _ _ h => h, fun _ _ _ _ h => h, fun _ _ _ _ h => h, fun _ _ _ _ h => h, fun _ _ _ _ h => h, fun _ _ _ _ h => h, fun _ _ _ _ h => h, fun _ _ _ _ h => h, fun _ _ _ _ h => h, fun _ _ _ _ h => h, fun _ _ _ _ h => h, fun _ _ _ _ h => h, fun _ _ _ _ h => h, fun _ _ _ _ h => h, fun _ _ _ _ h => h, fun _ _ _ _ h => h, fun _ _ _ _ h => h, fun _ _ _ _ h => h, fun _ _ _ _ h => h, fun _ _ _ _ h => h, fun _ _ _ _ h => h, fun _ _ _ _ h => h, fun _ _ _ _ h => h, fun _ _ _ _ h => h, fun _ _ _ _ h => h, fun _ _ _ _ h => h, fun _ _ _ _ h => h, fun _ _ _ _ h => h, fun _ _ _ _ h => h, fun _ _ _ _ h => h, fun _ _ _ _ h => h, fun _ _ _ _ h => h, fun _ _ _ _ h => h, fun _ _ _ _ h => h, fun _ _ _ _ h => h, fun _ _ _ _ h => h, fun _ _ _ _ h => h, trivial⟩ ⟨?sd0, ?sd1, ?sd2, ?sd3, ?sd4, ?sd5, ?sd6, ?sd7, ?sd8, ?sd9, ?sd10, ?sd11, ?sd12, ?sd13, ?sd14, ?sd15, ?sd16, ?sd17, ?sd18, ?sd19, ?sd20, ?sd21, ?sd22, ?sd23, ?sd24, ?sd25, ?sd26, ?sd27, ?sd28, ?sd29, ?sd30, ?sd31, ?sd32, ?sd33, ?sd34, ?sd35, ?sd36, ?sd37, ?sd38, ?sd39, ?sd40, ?sd41, ?sd42, trivial⟩ ?hEd
    case sd0 =>
      intro x u hg hd K hK
      clear hd
      refine ⟨?_⟩
      simp only [putsFrom, Act.put, List.setIfInBounds_toArray, List.set_cons_zero, List.set_cons_succ, Nat.reduceAdd] at hK ⊢
      go_simp
      exact hK.out _ _ (Kp.refl _) rfl
    case sd1 =>
      intro x u hg hd K hK
      have d0 : (x 0) = .pointer (some ⟨w9.heap.size, 3, none⟩) := And.left hd
      clear hd
      refine ⟨?_⟩
      simp only [putsFrom, Act.put, List.setIfInBounds_toArray, List.set_cons_zero, List.set_cons_succ, Nat.reduceAdd, d0] at hK ⊢
      go_simp
      exact hK.out _ _ (Kp.refl _) rfl
    case sd2 =>
      intro x u hg hd K hK
      have d1 : (x 1) = .slice Ax 1 cx := And.left hd
      clear hd
      refine ⟨?_⟩
      simp only [putsFrom, Act.put, List.setIfInBounds_toArray, List.set_cons_zero, List.set_cons_succ, Nat.reduceAdd, d1] at hK ⊢
      go_simp
      exact hK.out _ _ (Kp.refl _) rfl
    case sd3 =>
      intro x u hg hd K hK
      have d2 : (x 2) = .int .i64 1 := And.left hd
      clear hd
      refine ⟨?_⟩
      simp only [putsFrom, Act.put, List.setIfInBounds_toArray, List.set_cons_zero, List.set_cons_succ, Nat.reduceAdd, d2] at hK ⊢
      go_simp
      exact hK.out _ _ (Kp.refl _) rfl
    case sd4 =>
      intro x u hg hd K hK
      have d3 : (x 3) = .bool true := And.left hd
      clear hd
      refine ⟨?_⟩
      simp only [putsFrom, Act.put, List.setIfInBounds_toArray, List.set_cons_zero, List.set_cons_succ, Nat.reduceAdd, d3] at hK ⊢
      go_simp
      exact hK.out _ _ (Kp.refl _) rfl
    case sd5 =>
      intro x u hg hd K hK
      have d4 : (x 4) = .bool true := And.left hd
      clear hd
      refine ⟨?_⟩
      simp only [putsFrom, Act.put, List.setIfInBounds_toArray, List.set_cons_zero, List.set_cons_succ, Nat.reduceAdd, d4] at hK ⊢
      go_simp
      exact hK.out _ _ (Kp.refl _) rfl
    case sd6 =>
      intro x u hg hd K hK
      have d4 : (x 4) = .bool true := And.left hd
      have d5 : (x 5) = .pointer (some ⟨w.heap.size + 1, 3, none⟩) := And.left (And.right hd)
      clear hd
      refine ⟨?_⟩
      simp only [putsFrom, Act.put, List.setIfInBounds_toArray, List.set_cons_zero, List.set_cons_succ, Nat.reduceAdd, d4, d5] at hK ⊢
      go_simp
      exact hK.out _ _ (Kp.refl _) rfl
    case sd7 =>
      intro x u hg hd K hK
      have d4 : (x 4) = .bool true := And.left hd
      clear hd
      refine ⟨?_⟩
      simp only [putsFrom, Act.put, List.setIfInBounds_toArray, List.set_cons_zero, List.set_cons_succ, Nat.reduceAdd, d4] at hK ⊢
      go_simp
      exact hK.out _ _ (Kp.refl _) rfl
    case sd8 =>
      intro x u hg hd K hK
      have d4 : (x 4) = .bool true := And.left hd
      have d7 : (x 7) = .pointer (some ⟨w.heap.size, 3, none⟩) := And.left (And.right hd)
      clear hd
      refine ⟨?_⟩
      simp only [putsFrom, Act.put, List.setIfInBounds_toArray, List.set_cons_zero, List.set_cons_succ, Nat.reduceAdd, d4, d7] at hK ⊢
      go_simp
      exact hK.out _ _ (Kp.refl _) rfl
    case sd9 =>
      intro x u hg hd K hK
      have d4 : (x 4) = .bool true := And.left hd
      have d6 : (x 6) = .slice (some ⟨g, 0, none⟩) a0.l.length (a0.l.length + 2) := And.left (And.right hd)
      have d8 : (x 8) = .slice A0 a0.l.length c0 := And.left (And.right (And.right hd))
      clear hd
      refine ⟨?_⟩
      simp only [putsFrom, Act.put, List.setIfInBounds_toArray, List.set_cons_zero, List.set_cons_succ, Nat.reduceAdd, d4, d6, d8] at hK ⊢
      go_simp
      go_at_call 37
      have hc := stayed_any g _ a0.l u (MZ.out.kp hg.k) (RL.out.kp hg.k)
      refine hc.mono ?_
      clear hc
      rintro e u' ⟨rfl, hk⟩
      dsimp only
      exact hK.out _ _ hk rfl
    case sd10 =>
      intro x u hg hd K hK
      have d4 : (x 4) = .bool true := And.left hd
      have d9 : (x 9) = .bool true := And.left (And.right hd)
      clear hd
      refine ⟨?_⟩
      simp only [putsFrom, Act.put, List.setIfInBounds_toArray, List.set_cons_zero, List.set_cons_succ, Nat.reduceAdd, d4, d9] at hK ⊢
      go_simp
      exact hK.out _ _ (Kp.refl _) rfl
    case sd11 =>
      intro x u hg hd K hK
      have d10 : (x 10) = .bool true := And.left hd
      clear hd
      refine ⟨?_⟩
      simp only [putsFrom, Act.put, List.setIfInBounds_toArray, List.set_cons_zero, List.set_cons_succ, Nat.reduceAdd, d10] at hK ⊢
      go_simp
      exact hK.out _ _ (Kp.refl _) rfl
    case sd12 =>
      intro x u hg hd K hK
      have d11 : (x 11) = .bool true := And.left hd
      clear hd
      refine ⟨?_⟩
      simp only [putsFrom, Act.put, List.setIfInBounds_toArray, List.set_cons_zero, List.set_cons_succ, Nat.reduceAdd, d11] at hK ⊢
      go_simp
      exact hK.out _ _ (Kp.refl _) rfl
    case sd13 =>
      intro x u hg hd K hK
      have d11 : (x 11) = .bool true := And.left hd
      have d12 : (x 12) = .pointer (some ⟨w.heap.size, 0, none⟩) := And.left (And.right hd)
      clear hd
      refine ⟨?_⟩
      simp only [putsFrom, Act.put, List.setIfInBounds_toArray, List.set_cons_zero, List.set_cons_succ, Nat.reduceAdd, d11, d12] at hK ⊢
      go_simp
      exact hK.out _ _ (Kp.refl _) rfl
    case sd14 =>
      intro x u hg hd K hK
      have d11 : (x 11) = .bool true := And.left hd
      have d13 : (x 13) = .int .i64 a0.k := And.left (And.right hd)
      clear hd
      refine ⟨?_⟩
      simp only [putsFrom, Act.put, List.setIfInBounds_toArray, List.set_cons_zero, List.set_cons_succ, Nat.reduceAdd, d11, d13] at hK ⊢
      go_simp
      exact hK.out _ _ (Kp.refl _) rfl
    case sd15 =>
      intro x u hg hd K hK
      have d11 : (x 11) = .bool true := And.left hd
      have d14 : (x 14) = .bool true := And.left (And.right hd)
      clear hd
      refine ⟨?_⟩
      simp only [putsFrom, Act.put, List.setIfInBounds_toArray, List.set_cons_zero, List.set_cons_succ, Nat.reduceAdd, d11, d14] at hK ⊢
      go_simp
      exact hK.out _ _ (Kp.refl _) rfl
    case sd16 =>
      intro x u hg hd K hK
      have d15 : (x 15) = .bool true := And.left hd
      clear hd
      refine ⟨?_⟩
      simp only [putsFrom, Act.put, List.setIfInBounds_toArray, List.set_cons_zero, List.set_cons_succ, Nat.reduceAdd, d15] at hK ⊢
      go_simp
      exact hK.out _ _ (Kp.refl _) rfl
    case sd17 =>
      intro x u hg hd K hK
      have d15 : (x 15) = .bool true := And.left hd
      have d16 : (x 16) = undef := And.left (And.right hd)
      clear hd
      refine ⟨?_⟩
      simp only [putsFrom, Act.put, List.setIfInBounds_toArray, List.set_cons_zero, List.set_cons_succ, Nat.reduceAdd, d15, d16] at hK ⊢
      go_simp
      exact hK.out _ _ (Kp.refl _) rfl
    case sd18 =>
      intro x u hg hd K hK
      have d15 : (x 15) = .bool true := And.left hd
      have d17 : (x 17) = undef := And.left (And.right hd)
      clear hd
      refine ⟨?_⟩
      simp only [putsFrom, Act.put, List.setIfInBounds_toArray, List.set_cons_zero, List.set_cons_succ, Nat.reduceAdd, d15, d17] at hK ⊢
      go_simp
      exact hK.out _ _ (Kp.refl _) rfl
    case sd19 =>
      intro x u hg hd K hK
      have d15 : (x 15) = .bool true := And.left hd
      clear hd
      refine ⟨?_⟩
      simp only [putsFrom, Act.put, List.setIfInBounds_toArray, List.set_cons_zero, List.set_cons_succ, Nat.reduceAdd, d15] at hK ⊢
      go_simp
      exact hK.out _ _ (Kp.refl _) rfl
    case sd20 =>
      intro x u hg hd K hK
      have d15 : (x 15) = .bool true := And.left hd
      have d19 : (x 19) = undef := And.left (And.right hd)
      clear hd
      refine ⟨?_⟩
      simp only [putsFrom, Act.put, List.setIfInBounds_toArray, List.set_cons_zero, List.set_cons_succ, Nat.reduceAdd, d15, d19] at hK ⊢
      go_simp
      exact hK.out _ _ (Kp.refl _) rfl
    case sd21 =>
      intro x u hg hd K hK
      have d15 : (x 15) = .bool true := And.left hd
      have d20 : (x 20) = undef := And.left (And.right hd)
      clear hd
      refine ⟨?_⟩
      simp only [putsFrom, Act.put, List.setIfInBounds_toArray, List.set_cons_zero, List.set_cons_succ, Nat.reduceAdd, d15, d20] at hK ⊢
      go_simp
      exact hK.out _ _ (Kp.refl _) rfl
    case sd22 =>
      intro x u hg hd K hK
      have d15 : (x 15) = .bool true := And.left hd
      have d18 : (x 18) = undef := And.left (And.right hd)
      have d21 : (x 21) = undef := And.left (And.right (And.right hd))
      clear hd
      refine ⟨?_⟩
      simp only [putsFrom, Act.put, List.setIfInBounds_toArray, List.set_cons_zero, List.set_cons_succ, Nat.reduceAdd, d15, d18, d21] at hK ⊢
      go_simp
      exact hK.out _ _ (Kp.refl _) rfl
    case sd23 =>
      intro x u hg hd K hK
      have d15 : (x 15) = .bool true := And.left hd
      have d22 : (x 22) = undef := And.left (And.right hd)
      clear hd
      refine ⟨?_⟩
      simp only [putsFrom, Act.put, List.setIfInBounds_toArray, List.set_cons_zero, List.set_cons_succ, Nat.reduceAdd, d15, d22] at hK ⊢
      go_simp
      exact hK.out _ _ (Kp.refl _) rfl
    case sd24 =>
      intro x u hg hd K hK
      have d23 : (x 23) = undef := And.left hd
      clear hd
      refine ⟨?_⟩
      simp only [putsFrom, Act.put, List.setIfInBounds_toArray, List.set_cons_zero, List.set_cons_succ, Nat.reduceAdd, d23] at hK ⊢
      go_simp
      exact hK.out _ _ (Kp.refl _) rfl
    case sd25 =>
      intro x u hg hd K hK
      have d23 : (x 23) = undef := And.left hd
      have d24 : (x 24) = undef := And.left (And.right hd)
      clear hd
      refine ⟨?_⟩
      simp only [putsFrom, Act.put, List.setIfInBounds_toArray, List.set_cons_zero, List.set_cons_succ, Nat.reduceAdd, d23, d24] at hK ⊢
      go_simp
      exact hK.out _ _ (Kp.refl _) rfl
    case sd26 =>
      intro x u hg hd K hK
      have d23 : (x 23) = undef := And.left hd
      have d25 : (x 25) = undef := And.left (And.right hd)
      clear hd
      refine ⟨?_⟩
      simp only [putsFrom, Act.put, List.setIfInBounds_toArray, List.set_cons_zero, List.set_cons_succ, Nat.reduceAdd, d23, d25] at hK ⊢
      go_simp
      exact hK.out _ _ (Kp.refl _) rfl
    case sd27 =>
      intro x u hg hd K hK
      have d23 : (x 23) = undef := And.left hd
      have d26 : (x 26) = undef := And.left (And.right hd)
      clear hd
      refine ⟨?_⟩
      simp only [putsFrom, Act.put, List.setIfInBounds_toArray, List.set_cons_zero, List.set_cons_succ, Nat.reduceAdd, d23, d26] at hK ⊢
      go_simp
      exact hK.out _ _ (Kp.refl _) rfl
    case sd28 =>
      intro x u hg hd K hK
      have d23 : (x 23) = undef := And.left hd
      have d27 : (x 27) = undef := And.left (And.right hd)
      clear hd
      refine ⟨?_⟩
      simp only [putsFrom, Act.put, List.setIfInBounds_toArray, List.set_cons_zero, List.set_cons_succ, Nat.reduceAdd, d23, d27] at hK ⊢
      go_simp
      exact hK.out _ _ (Kp.refl _) rfl
    case sd29 =>
      intro x u hg hd K hK
      have d28 : (x 28) = undef := And.left hd
      clear hd
      refine ⟨?_⟩
      simp only [putsFrom, Act.put, List.setIfInBounds_toArray, List.set_cons_zero, List.set_cons_succ, Nat.reduceAdd, d28] at hK ⊢
      go_simp
      exact hK.out _ _ (Kp.refl _) rfl
    case sd30 =>
      intro x u hg hd K hK
      have d28 : (x 28) = undef := And.left hd
      have d29 : (x 29) = undef := And.left (And.right hd)
      clear hd
      refine ⟨?_⟩
      simp only [putsFrom, Act.put, List.setIfInBounds_toArray, List.set_cons_zero, List.set_cons_succ, Nat.reduceAdd, d28, d29] at hK ⊢
      go_simp
      exact hK.out _ _ (Kp.refl _) rfl
    case sd31 =>
      intro x u hg hd K hK
      have d28 : (x 28) = undef := And.left hd
      have d30 : (x 30) = undef := And.left (And.right hd)
      clear hd
      refine ⟨?_⟩
      simp only [putsFrom, Act.put, List.setIfInBounds_toArray, List.set_cons_zero, List.set_cons_succ, Nat.reduceAdd, d28, d30] at hK ⊢
      go_simp
      exact hK.out _ _ (Kp.refl _) rfl
    case sd32 =>
      intro x u hg hd K hK
      have d28 : (x 28) = undef := And.left hd
      have d31 : (x 31) = undef := And.left (And.right hd)
      clear hd
      refine ⟨?_⟩
      simp only [putsFrom, Act.put, List.setIfInBounds_toArray, List.set_cons_zero, List.set_cons_succ, Nat.reduceAdd, d28, d31] at hK ⊢
      go_simp
      exact hK.out _ _ (Kp.refl _) rfl
    case sd33 =>
      intro x u hg hd K hK
      have d28 : (x 28) = undef := And.left hd
      clear hd
      refine ⟨?_⟩
      simp only [putsFrom, Act.put, List.setIfInBounds_toArray, List.set_cons_zero, List.set_cons_succ, Nat.reduceAdd, d28] at hK ⊢
      go_simp
      exact hK.out _ _ (Kp.refl _) rfl
    case sd34 =>
      intro x u hg hd K hK
      have d28 : (x 28) = undef := And.left hd
      have d33 : (x 33) = undef := And.left (And.right hd)
      clear hd
      refine ⟨?_⟩
      simp only [putsFrom, Act.put, List.setIfInBounds_toArray, List.set_cons_zero, List.set_cons_succ, Nat.reduceAdd, d28, d33] at hK ⊢
      go_simp
      exact hK.out _ _ (Kp.refl _) rfl
    case sd35 =>
      intro x u hg hd K hK
      have d28 : (x 28) = undef := And.left hd
      have d34 : (x 34) = undef := And.left (And.right hd)
      clear hd
      refine ⟨?_⟩
      simp only [putsFrom, Act.put, List.setIfInBounds_toArray, List.set_cons_zero, List.set_cons_succ, Nat.reduceAdd, d28, d34] at hK ⊢
      go_simp
      exact hK.out _ _ (Kp.refl _) rfl
    case sd36 =>
      intro x u hg hd K hK
      have d28 : (x 28) = undef := And.left hd
      have d35 : (x 35) = undef := And.left (And.right hd)
      clear hd
      refine ⟨?_⟩
      simp only [putsFrom, Act.put, List.setIfInBounds_toArray, List.set_cons_zero, List.set_cons_succ, Nat.reduceAdd, d28, d35] at hK ⊢
      go_simp
      exact hK.out _ _ (Kp.refl _) rfl
    case sd37 =>
      intro x u hg hd K hK
      have d28 : (x 28) = undef := And.left hd
      have d32 : (x 32) = undef := And.left (And.right hd)
      have d36 : (x 36) = undef := And.left (And.right (And.right hd))
      clear hd
      refine ⟨?_⟩
      simp only [putsFrom, Act.put, List.setIfInBounds_toArray, List.set_cons_zero, List.set_cons_succ, Nat.reduceAdd, d28, d32, d36] at hK ⊢
      go_simp
      exact hK.out _ _ (Kp.refl _) rfl
    case sd38 =>
      intro x u hg hd K hK
      have d23 : (x 23) = undef := And.left hd
      have d28 : (x 28) = undef := And.left (And.right hd)
      have d37 : (x 37) = undef := And.left (And.right (And.right hd))
      clear hd
      refine ⟨?_⟩
      simp only [putsFrom, Act.put, List.setIfInBounds_toArray, List.set_cons_zero, List.set_cons_succ, Nat.reduceAdd, d23, d28, d37] at hK ⊢
      go_simp
      exact hK.out _ _ (Kp.refl _) rfl
    case sd39 =>
      intro x u hg hd K hK
      have d15 : (x 15) = .bool true := And.left hd
      have d23 : (x 23) = undef := And.left (And.right hd)
      have d38 : (x 38) = undef := And.left (And.right (And.right hd))
      clear hd
      refine ⟨?_⟩
      simp only [putsFrom, Act.put, List.setIfInBounds_toArray, List.set_cons_zero, List.set_cons_succ, Nat.reduceAdd, d15, d23, d38] at hK ⊢
      go_simp
      exact hK.out _ _ (Kp.refl _) rfl
    case sd40 =>
      intro x u hg hd K hK
      have d11 : (x 11) = .bool true := And.left hd
      have d15 : (x 15) = .bool true := And.left (And.right hd)
      have d39 : (x 39) = undef := And.left (And.right (And.right hd))
      clear hd
      refine ⟨?_⟩
      simp only [putsFrom, Act.put, List.setIfInBounds_toArray, List.set_cons_zero, List.set_cons_succ, Nat.reduceAdd, d11, d15, d39] at hK ⊢
      go_simp
      exact hK.out _ _ (Kp.refl _) rfl
    case sd41 =>
      intro x u hg hd K hK
      have d11 : (x 11) = .bool true := And.left hd
      have d40 : (x 40) = .bool true := And.left (And.right hd)
      clear hd
      refine ⟨?_⟩
      simp only [putsFrom, Act.put, List.setIfInBounds_toArray, List.set_cons_zero, List.set_cons_succ, Nat.reduceAdd, d11, d40] at hK ⊢
      go_simp
      exact hK.out _ _ (Kp.refl _) rfl
    case sd42 =>
      intro x u hg hd K hK
      have d41 : (x 41) = .bool true := And.left hd
      clear hd
      refine ⟨?_⟩
      simp only [putsFrom, Act.put, List.setIfInBounds_toArray, List.set_cons_zero, List.set_cons_succ, Nat.reduceAdd, d41] at hK ⊢
      go_simp
      exact hK.out _ _ (Kp.refl _) rfl
    intro x u hg he
    have d0 : (x 0) = .pointer (some ⟨w9.heap.size, 3, none⟩) := And.left he
    have d1 : (x 1) = .slice Ax 1 cx := And.left (And.right he)
    have d2 : (x 2) = .int .i64 1 := And.left (And.right (And.right he))
    have d3 : (x 3) = .bool true := And.left (And.right (And.right (And.right he)))
    have d4 : (x 4) = .bool true := And.left (And.right (And.right (And.right (And.right he))))
    have d5 : (x 5) = .pointer (some ⟨w.heap.size + 1, 3, none⟩) := And.left (And.right (And.right (And.right (And.right (And.right he)))))
    have d6 : (x 6) = .slice (some ⟨g, 0, none⟩) a0.l.length (a0.l.length + 2) := And.left (And.right (And.right (And.right (And.right (And.right (And.right he))))))
    have d7 : (x 7) = .pointer (some ⟨w.heap.size, 3, none⟩) := And.left (And.right (And.right (And.right (And.right (And.right (And.right (And.right he)))))))
    have d8 : (x 8) = .slice A0 a0.l.length c0 := And.left (And.right (And.right (And.right (And.right (And.right (And.right (And.right (And.right he))))))))
    have d9 : (x 9) = .bool true := And.left (And.right (And.right (And.right (And.right (And.right (And.right (And.right (And.right (And.right he)))))))))
    have d10 : (x 10) = .bool true := And.left (And.right (And.right (And.right (And.right (And.right (And.right (And.right (And.right (And.right (And.right he))))))))))
    have d11 : (x 11) = .bool true := And.left (And.right (And.right (And.right (And.right (And.right (And.right (And.right (And.right (And.right (And.right (And.right he)))))))))))
    have d12 : (x 12) = .pointer (some ⟨w.heap.size, 0, none⟩) := And.left (And.right (And.right (And.right (And.right (And.right (And.right (And.right (And.right (And.right (And.right (And.right (And.right he))))))))))))
    have d13 : (x 13) = .int .i64 a0.k := And.left (And.right (And.right (And.right (And.right (And.right (And.right (And.right (And.right (And.right (And.right (And.right (And.right (And.right he)))))))))))))
    have d14 : (x 14) = .bool true := And.left (And.right (And.right (And.right (And.right (And.right (And.right (And.right (And.right (And.right (And.right (And.right (And.right (And.right (And.right he))))))))))))))
    have d15 : (x 15) = .bool true := And.left (And.right (And.right (And.right (And.right (And.right (And.right (And.right (And.right (And.right (And.right (And.right (And.right (And.right (And.right (And.right he)))))))))))))))
    have d16 : (x 16) = undef := And.left (And.right (And.right (And.right (And.right (And.right (And.right (And.right (And.right (And.right (And.right (And.right (And.right (And.right (And.right (And.right (And.right he))))))))))))))))
    have d17 : (x 17) = undef := And.left (And.right (And.right (And.right (And.right (And.right (And.right (And.right (And.right (And.right (And.right (And.right (And.right (And.right (And.right (And.right (And.right (And.right he)))))))))))))))))
    have d18 : (x 18) = undef := And.left (And.right (And.right (And.right (And.right (And.right (And.right (And.right (And.right (And.right (And.right (And.right (And.right (And.right (And.right (And.right (And.right (And.right (And.right he))))))))))))))))))
    have d19 : (x 19) = undef := And.left (And.right (And.right (And.right (And.right (And.right (And.right (And.right (And.right (And.right (And.right (And.right (And.right (And.right (And.right (And.right (And.right (And.right (And.right (And.right he)))))))))))))))))))
    have d20 : (x 20) = undef := And.left (And.right (And.right (And.right (And.right (And.right (And.right (And.right (And.right (And.right (And.right (And.right (And.right (And.right (And.right (And.right (And.right (And.right (And.right (And.right (And.right he))))))))))))))))))))
    have d21 : (x 21) = undef := And.left (And.right (And.right (And.right (And.right (And.right (And.right (And.right (And.right (And.right (And.right (And.right (And.right (And.right (And.right (And.right (And.right (And.right (And.right (And.right (And.right (And.right he)))))))))))))))))))))
    have d22 : (x 22) = undef := And.left (And.right (And.right (And.right (And.right (And.right (And.right (And.right (And.right (And.right (And.right (And.right (And.right (And.right (And.right (And.right (And.right (And.right (And.right (And.right (And.right (And.right (And.right he))))))))))))))))))))))
    have d23 : (x 23) = undef := And.left (And.right (And.right (And.right (And.right (And.right (And.right (And.right (And.right (And.right (And.right (And.right (And.right (And.right (And.right (And.right (And.right (And.right (And.right (And.right (And.right (And.right (And.right (And.right he)))))))))))))))))))))))
    have d24 : (x 24) = undef := And.left (And.right (And.right (And.right (And.right (And.right (And.right (And.right (And.right (And.right (And.right (And.right (And.right (And.right (And.right (And.right (And.right (And.right (And.right (And.right (And.right (And.right (And.right (And.right (And.right he))))))))))))))))))))))))
    have d25 : (x 25) = undef := And.left (And.right (And.right (And.right (And.right (And.right (And.right (And.right (And.right (And.right (And.right (And.right (And.right (And.right (And.right (And.right (And.right (And.right (And.right (And.right (And.right (And.right (And.right (And.right (And.right (And.right he)))))))))))))))))))))))))
    have d26 : (x 26) = undef := And.left (And.right (And.right (And.right (And.right (And.right (And.right (And.right (And.right (And.right (And.right (And.right (And.right (And.right (And.right (And.right (And.right (And.right (And.right (And.right (And.right (And.right (And.right (And.right (And.right (And.right (And.right he))))))))))))))))))))))))))
    have d27 : (x 27) = undef := And.left (And.right (And.right (And.right (And.right (And.right (And.right (And.right (And.right (And.right (And.right (And.right (And.right (And.right (And.right (And.right (And.right (And.right (And.right (And.right (And.right (And.right (And.right (And.right (And.right (And.right (And.right (And.right he)))))))))))))))))))))))))))
    have d28 : (x 28) = undef := And.left (And.right (And.right (And.right (And.right (And.right (And.right (And.right (And.right (And.right (And.right (And.right (And.right (And.right (And.right (And.right (And.right (And.right (And.right (And.right (And.right (And.right (And.right (And.right (And.right (And.right (And.right (And.right (And.right he))))))))))))))))))))))))))))
    have d29 : (x 29) = undef := And.left (And.right (And.right (And.right (And.right (And.right (And.right (And.right (And.right (And.right (And.right (And.right (And.right (And.right (And.right (And.right (And.right (And.right (And.right (And.right (And.right (And.right (And.right (And.right (And.right (And.right (And.right (And.right (And.right (And.right he)))))))))))))))))))))))))))))
    have d30 : (x 30) = undef := And.left (And.right (And.right (And.right (And.right (And.right (And.right (And.right (And.right (And.right (And.right (And.right (And.right (And.right (And.right (And.right (And.right (And.right (And.right (And.right (And.right (And.right (And.right (And.right (And.right (And.right (And.right (And.right (And.right (And.right (And.right he))))))))))))))))))))))))))))))
    have d31 : (x 31) = undef := And.left (And.right (And.right (And.right (And.right (And.right (And.right (And.right (And.right (And.right (And.right (And.right (And.right (And.right (And.right (And.right (And.right (And.right (And.right (And.right (And.right (And.right (And.right (And.right (And.right (And.right (And.right (And.right (And.right (And.right (And.right (And.right he)))))))))))))))))))))))))))))))
    have d32 : (x 32) = undef := And.left (And.right (And.right (And.right (And.right (And.right (And.right (And.right (And.right (And.right (And.right (And.right (And.right (And.right (And.right (And.right (And.right (And.right (And.right (And.right (And.right (And.right (And.right (And.right (And.right (And.right (And.right (And.right (And.right (And.right (And.right (And.right (And.right he))))))))))))))))))))))))))))))))
    have d33 : (x 33) = undef := And.left (And.right (And.right (And.right (And.right (And.right (And.right (And.right (And.right (And.right (And.right (And.right (And.right (And.right (And.right (And.right (And.right (And.right (And.right (And.right (And.right (And.right (And.right (And.right (And.right (And.right (And.right (And.right (And.right (And.right (And.right (And.right (And.right (And.right he)))))))))))))))))))))))))))))))))
    have d34 : (x 34) = undef := And.left (And.right (And.right (And.right (And.right (And.right (And.right (And.right (And.right (And.right (And.right (And.right (And.right (And.right (And.right (And.right (And.right (And.right (And.right (And.right (And.right (And.right (And.right (And.right (And.right (And.right (And.right (And.right (And.right (And.right (And.right (And.right (And.right (And.right (And.right he))))))))))))))))))))))))))))))))))
    have d35 : (x 35) = undef := And.left (And.right (And.right (And.right (And.right (And.right (And.right (And.right (And.right (And.right (And.right (And.right (And.right (And.right (And.right (And.right (And.right (And.right (And.right (And.right (And.right (And.right (And.right (And.right (And.right (And.right (And.right (And.right (And.right (And.right (And.right (And.right (And.right (And.right (And.right (And.right he)))))))))))))))))))))))))))))))))))
    have d36 : (x 36) = undef := And.left (And.right (And.right (And.right (And.right (And.right (And.right (And.right (And.right (And.right (And.right (And.right (And.right (And.right (And.right (And.right (And.right (And.right (And.right (And.right (And.right (And.right (And.right (And.right (And.right (And.right (And.right (And.right (And.right (And.right (And.right (And.right (And.right (And.right (And.right (And.right (And.right he))))))))))))))))))))))))))))))))))))
    have d37 : (x 37) = undef := And.left (And.right (And.right (And.right (And.right (And.right (And.right (And.right (And.right (And.right (And.right (And.right (And.right (And.right (And.right (And.right (And.right (And.right (And.right (And.right (And.right (And.right (And.right (And.right (And.right (And.right (And.right (And.right (And.right (And.right (And.right (And.right (And.right (And.right (And.right (And.right (And.right (And.right he)))))))))))))))))))))))))))))))))))))
    have d38 : (x 38) = undef := And.left (And.right (And.right (And.right (And.right (And.right (And.right (And.right (And.right (And.right (And.right (And.right (And.right (And.right (And.right (And.right (And.right (And.right (And.right (And.right (And.right (And.right (And.right (And.right (And.right (And.right (And.right (And.right (And.right (And.right (And.right (And.right (And.right (And.right (And.right (And.right (And.right (And.right (And.right he))))))))))))))))))))))))))))))))))))))
    have d39 : (x 39) = undef := And.left (And.right (And.right (And.right (And.right (And.right (And.right (And.right (And.right (And.right (And.right (And.right (And.right (And.right (And.right (And.right (And.right (And.right (And.right (And.right (And.right (And.right (And.right (And.right (And.right (And.right (And.right (And.right (And.right (And.right (And.right (And.right (And.right (And.right (And.right (And.right (And.right (And.right (And.right (And.right he)))))))))))))))))))))))))))))))))))))))
    have d40 : (x 40) = .bool true := And.left (And.right (And.right (And.right (And.right (And.right (And.right (And.right (And.right (And.right (And.right (And.right (And.right (And.right (And.right (And.right (And.right (And.right (And.right (And.right (And.right (And.right (And.right (And.right (And.right (And.right (And.right (And.right (And.right (And.right (And.right (And.right (And.right (And.right (And.right (And.right (And.right (And.right (And.right (And.right (And.right he))))))))))))))))))))))))))))))))))))))))
    have d41 : (x 41) = .bool true := And.left (And.right (And.right (And.right (And.right (And.right (And.right (And.right (And.right (And.right (And.right (And.right (And.right (And.right (And.right (And.right (And.right (And.right (And.right (And.right (And.right (And.right (And.right (And.right (And.right (And.right (And.right (And.right (And.right (And.right (And.right (And.right (And.right (And.right (And.right (And.right (And.right (And.right (And.right (And.right (And.right (And.right he)))))))))))))))))))))))))))))))))))))))))
    have d42 : (x 42) = .bool true := And.left (And.right (And.right (And.right (And.right (And.right (And.right (And.right (And.right (And.right (And.right (And.right (And.right (And.right (And.right (And.right (And.right (And.right (And.right (And.right (And.right (And.right (And.right (And.right (And.right (And.right (And.right (And.right (And.right (And.right (And.right (And.right (And.right (And.right (And.right (And.right (And.right (And.right (And.right (And.right (And.right (And.right (And.right he))))))))))))))))))))))))))))))))))))))))))
    clear he
    refine ⟨?_⟩
    simp only [putsFrom, Act.put, List.setIfInBounds_toArray, List.set_cons_zero, List.set_cons_succ, Nat.reduceAdd, d0, d1, d2, d3, d4, d5, d6, d7, d8, d9, d10, d11, d12, d13, d14, d15, d16, d17, d18, d19, d20, d21, d22, d23, d24, d25, d26, d27, d28, d29, d30, d31, d32, d33, d34, d35, d36, d37, d38, d39, d40, d41, d42]
    clear d0 d1 d2 d3 d4 d5 d6 d7 d8 d9 d10 d11 d12 d13 d14 d15 d16 d17 d18 d19 d20 d21 d22 d23 d24 d25 d26 d27 d28 d29 d30 d31 d32 d33 d34 d35 d36 d37 d38 d39 d40 d41 d42
    go_wp2_with fail
    go_ret
    exact ⟨rfl, Below.trans KW.out (Below.mono hg.k (Below.size KW.out))⟩

/-! ### The row's step (the guide's frame, written by program) -/
set_option maxRecDepth 100000 in
theorem lifted (os : Os) (started : os.Started) (H : Type) (enc : TypeId × Value → H) (F : Stop.Interp) :
    ReturnsInHanded {} Try.checked os 11 .any ((Rows.OpenSpec.upto Rows.valueMemorySpec).pre6 enc Try.prog Try.f11 Rows.valueMemoryUptoRow.domain false) (((Rows.OpenSpec.upto Rows.valueMemorySpec).at F).post enc Try.prog Try.f11 false true false false) := by
  refine returnsInHanded_of_cond_sized (C := Try.checked) (s := Rows.OpenSpec.upto Rows.valueMemorySpec) (k := Rows.uptoSmall) rfl own started (by kernel_rfl) Try.func11
    (OpenSpec.witness (enc := enc) (C := Try.checked) (s := Rows.OpenSpec.upto Rows.valueMemorySpec) (k := Rows.uptoSmall) rfl false ⟨#[], #[.agg #[.int .i64 0, .int .i64 0, .string ⟨#[]⟩, .slice none 0 0]], []⟩ 8 (by kernel_rfl) (by kernel_rfl) (by kernel_rfl)
      (x := ([.agg [.lit (.int .i64 0), .lit (.int .i64 0), .lit (.string []), .nil]], [], [])) (by kernel_rfl) rfl (by kernel_rfl)) ?_
  intro W base args ds gs before hval0 hW _ hk0 hsz0 _
  have hsz : (DataW.weightsEach Try.prog (Try.f11.params.toList ++ (Rows.OpenSpec.upto Rows.valueMemorySpec).bare.plain.varTypes Try.prog) (ds ++ gs)).all (· ≤ reachBytes) = true := hsz0
  clear hsz0
  have hval : ∀ (j : Nat) t v, Try.f11.params[j]? = some t → args[j]? = some v → Value.okWide Try.prog W .any base t v := hval0
  have hW' := hW
  obtain ⟨p, q, hA0, hV, rfl, hfz, hnd⟩ := hW
  have hA : DataW.TrodAll enc Try.prog W 0 (fun _ => true) true Try.f11.params.toList args.toList ds p := hA0
  rw [Try.params11] at hA hval hsz
  obtain ⟨v0, vs0, d0, ds0, p0, q0, hargs, rfl, rfl, h0, r0⟩ := trodAll_cons hA
  obtain ⟨rfl, rfl, rfl⟩ := trodAll_nil r0
  obtain rfl : args = #[v0] := by cases args; simp_all
  obtain ⟨rfl, rfl⟩ := trodVars_none hV
  have hbk : Rows.uptoBulkAll [d0] ≤ 1048576 := of_decide_eq_true hk0
  simp only [Rows.uptoBulkAll] at hbk
  have hb0 : Rows.uptoBulk d0 ≤ 1048576 := by omega
  clear hk0 hbk
  have k0 := h0
  have lt0 : ∀ x ∈ p0, x.block < W.heap.size := by obtain ⟨m, hm⟩ := k0; exact DataW.trod_lt m _ _ _ hm
  have hz0 : ∀ n ∈ DataW.weights Try.prog 53 d0, n ≤ reachBytes := fun n hn => by
    have := List.all_eq_true.1 hsz _ (DataW.weights_mem_each (j := 0) rfl rfl n hn)
    simpa using this
  obtain ⟨a0, w0⟩ := open_valueVU (hval 0 53 v0 rfl rfl) h0 hz0 hb0
  clear hA0 hval0
  simp only [List.append_nil] at hW'
  refine (walk v0 a0 W w0).mono fun e W' ⟨he, bel⟩ => ?_
  subst he
  exact ⟨_, rfl, _, _, _, [], _, [], hW', trodAll_mk1 (shut_bool Try.underlying4 _), (trodAll_cons_mk (Below.trod laidOut (by kernel_rfl) (of_decide_eq_true (by kernel_rfl)) k0 bel lt0) trodAll_mk0), rfl, Below.frame bel _, fun h => by cases h⟩

theorem over : Rows.valueMemoryUptoRow.holds Try.pinned (Rows.OpenSpec.upto Rows.valueMemorySpec) :=
  OpenClaim.holds_of_cond 11 Try.f11 rfl rfl rfl rfl rfl rfl rfl ⟨rfl, rfl, rfl, rfl, rfl⟩ rfl rfl rfl rfl rfl (by kernel_rfl) Try.func11 (by kernel_rfl)
    (of_decide_eq_true (by kernel_rfl)) (by unfold Func.isWrapper; rw [if_neg (of_decide_eq_false (by kernel_rfl))]; exact ⟨rfl, rfl⟩)
    (fun os started H enc _ F => lifted os started H enc F)

/-- THE STATEMENT. -/
theorem proved : Rows.ValueMemoryUptoSaid := over
#print axioms proved

end Go.Proofs.Ytffjfkmnlfndkaa.valueMemory
