/-
  The law ReportRows answers true for every list of panics of bulk at most 2^20. Condition: the bound of the Upto statement.
-/
import Derived.SizedLaws
import Derived.Deep.CondSized
import Derived.Test.YtlfgofjmcegeiaaRows
import Derived.Test.YtlfgofjmcegeiaaRepN
import Derived.Test.YtlfgofjmcegeiaaBulkP
import Derived.Test.YtlfgofjmcegeiaaOwn
namespace Go.Proofs.Ytlfgofjmcegeiaa.reportRows
open Go.ChangeShapes Go.WideShapes Go.ChangeAt Go.RowKit
open Go.ChangeMaps (open_string shut_string)
set_option linter.unusedVariables false
set_option linter.unusedSimpArgs false

theorem own : ownKnob Try.prog.godebug = none := by kernel_rfl
theorem laidOut : laidOutB Try.prog = true := by kernel_rfl


def okP (p : PanicM) : Prop := okI p.serial ∧ (∀ x ∈ p.val.l, okI x) ∧ okI p.val.k ∧ okI p.val.n ∧ p.val.s.size ≤ 140737488351232 ∧ p.val.l.length * 8 ≤ 140737488351232
def CePO (base : Nat) (w : World) (cs : List Value) (p : PanicM) : Prop := ∃ lv, cs = [.int .i64 p.serial, .int .i64 p.val.k, .int .i64 p.val.n, .string p.val.s, lv, .bool p.rcd, .bool p.abt] ∧ OwnI w base lv p.val.l ∧ okP p
theorem CePO.kp {base : Nat} : ElKp (CePO base) := fun _ _ _ _ hk ⟨lv, h, h0, h1⟩ => ⟨lv, h, own_keep h0 hk, h1⟩
theorem CePO.ce {base : Nat} {w : World} {cs : List Value} {p : PanicM} (h : CePO base w cs p) : CePanic w cs p := by
  obtain ⟨lv, h, h0, h1, h2, h3, h4, h5, h6⟩ := h
  exact ⟨lv, h, h1, h0.rd (by omega) h2, h3, h4, h5, h6⟩
def OPcs (w : World) (base : Nat) (v : Value) (l : List PanicM) : Prop := OwnL (CePO base) 7 27 w base v l
theorem OPcs.kp {w w' : World} {base : Nat} {v : Value} {l : List PanicM} (h : OPcs w base v l) (hk : Kp w w') : OPcs w' base v l := OwnL.kp CePO.kp h hk
theorem OPcs.rd {w : World} {base : Nat} {v : Value} {l : List PanicM} (h : OPcs w base v l) : RdL CePanic 7 w v l := (OwnL.rd h).mono fun _ _ => CePO.ce
theorem OPcs.snoc {w w' : World} {base B : Nat} {v v' lv : Value} {l : List PanicM} {p : PanicM} {n : Nat} {xs : List Value} (hx : Chunk (CePO base) 7 w xs l) (hown : w.ownsRow base 27 7 v l.length xs) (hg : w.grownBy w' v.ownBlock) (hn : n = l.length + 1) (h : w'.ownsRow base 27 7 v' n (xs ++ [.int .i64 p.serial, .int .i64 p.val.k, .int .i64 p.val.n, .string p.val.s, lv, .bool p.rcd, .bool p.abt])) (ho : OwnI w B lv p.val.l) (hB : base ≤ B) (hok : okP p) : OPcs w' base v' (l ++ [p]) := by
  have ht := Touch.of_grown hown hg
  have hc : ∀ cs a, CePO base w cs a → CePO base w' cs a := fun cs a ⟨la, g1, g2, g3⟩ => ⟨la, g1, ownsRow_touch (by decide) g2 ht, g3⟩
  exact OwnL.snoc hn hx hc (hc _ p ⟨lv, rfl, own_base hB ho, hok⟩) rfl h
theorem texts_bk (l : List PanicM) : textsN l + l.length ≤ (l.map fun m => bkVal m.val + 1).sum := by
  induction l with
  | nil => simp [textsN]
  | cons p l ih => simp only [textsN, List.length_cons, List.map_cons, List.sum_cons, bkVal] at ih ⊢; omega
def pnc3 : PanicM := ⟨0, ⟨1, 3, ⟨#[]⟩, []⟩, false, false⟩
theorem crash3 : crashM [pnc3] = [112, 97, 110, 105, 99, 58, 32, 51, 10] := by
  have h : rtextM 1 3 ⟨#[]⟩ = [51] := by
    unfold rtextM
    rw [if_pos rfl]
    show Lib.itoa 3 = [51]
    unfold Lib.itoa
    rw [if_neg (by omega)]
    exact dec_small 3 (by omega)
  rw [crash_one]
  show (panicB ++ rtextM 1 3 ⟨#[]⟩) ++ ((if false then recB else []) ++ [10]) = _
  rw [h]; rfl
theorem rd3 (w3 : World) : RdL CePanic 7 (w3.alloc (.cells #[.int .i64 0, .int .i64 1, .int .i64 3, .string ⟨#[]⟩, .slice none 0 0, .bool false, .bool false] 27)) (.slice (some ⟨w3.heap.size, 0, none⟩) 1 1) [pnc3] := by
  refine ⟨some ⟨w3.heap.size, 0, none⟩, 1, rfl, Nat.le_refl _, fun i x hx => ?_⟩
  match i, hx with
  | 0, hx =>
    cases hx
    refine ⟨w3.heap.size, 0, [.int .i64 0, .int .i64 1, .int .i64 3, .string ⟨#[]⟩, .slice none 0 0, .bool false, .bool false], rfl, by simp, ⟨.slice none 0 0, rfl, ⟨by decide, by decide⟩, RdInts.nil_ _, ⟨by decide, by decide⟩, ⟨by decide, by decide⟩, by decide, by decide⟩, rfl, fun j hj => ?_⟩
    have hb := blk_new w3 (.cells #[.int .i64 0, .int .i64 1, .int .i64 3, .string ⟨#[]⟩, .slice none 0 0, .bool false, .bool false] 27)
    match j, hj with
    | 0, _ => exact blk_cell (o := 0) (v := .int .i64 0) hb rfl
    | 1, _ => exact blk_cell (o := 1) (v := .int .i64 1) hb rfl
    | 2, _ => exact blk_cell (o := 2) (v := .int .i64 3) hb rfl
    | 3, _ => exact blk_cell (o := 3) (v := .string ⟨#[]⟩) hb rfl
    | 4, _ => exact blk_cell (o := 4) (v := .slice none 0 0) hb rfl
    | 5, _ => exact blk_cell (o := 5) (v := .bool false) hb rfl
    | 6, _ => exact blk_cell (o := 6) (v := .bool false) hb rfl
  | i + 1, hx => simp at hx
theorem crash3_any (w3 : World) : Calls Try.prog 15 #[.slice (some ⟨w3.heap.size, 0, none⟩) 1 1] (w3.alloc (.cells #[.int .i64 0, .int .i64 1, .int .i64 3, .string ⟨#[]⟩, .slice none 0 0, .bool false, .bool false] 27)) fun e w' => e = .returned (.string ⟨#[112, 97, 110, 105, 99, 58, 32, 51, 10]⟩) ∧ Kp w3 w' := by
  refine (crash_any _ _ _ (rd3 w3) (by rw [crash3]; decide) (by decide)).mono ?_
  rintro e w' ⟨rfl, hk⟩
  rw [crash3]
  exact ⟨rfl, Kp.trans ((Kp.refl _).alloc _) hk⟩
theorem pnc_last (p : PanicM) : ∃ X, pncM p = X ++ [10] := ⟨_, by unfold pncM; rw [← List.append_assoc]⟩
theorem crash_last (l : List PanicM) (h : l ≠ []) : ∃ X, crashM l = X ++ [10] := by
  have e : l.take (l.length - 1) ++ [l.getLast h] = l := by rw [← List.dropLast_eq_take]; exact List.dropLast_concat_getLast h
  obtain ⟨X, hX⟩ := pnc_last (l.getLast h)
  rw [← e]
  by_cases h0 : l.take (l.length - 1) = []
  · rw [h0]; exact ⟨X, by rw [List.nil_append, crash_one, hX]⟩
  · rw [crash_snoc _ _ h0, hX]; exact ⟨crashM (l.take (l.length - 1)) ++ (9 :: X), by simp⟩
set_option maxRecDepth 20000 in
set_option maxHeartbeats 16000000 in
theorem walk (v0 : Value) (a0 : List PanicM) (w : World) (w0 : RdPanicsU w v0 a0) :
    Calls Try.prog 3 #[v0] w fun e w' => e = .returned (.bool true) ∧ Kp w w' := by
  obtain ⟨hr, hbk⟩ := w0
  obtain ⟨l, hl⟩ : ∃ l, a0 = l := ⟨_, rfl⟩
  rw [hl] at hr hbk
  clear hl
  have HR := hid hr
  have hok : ∀ p ∈ l, okI p.val.n := fun p hp => by
    obtain ⟨i, hi⟩ := List.mem_iff_getElem?.1 hp
    obtain ⟨A, c, rfl, _⟩ := hr.form
    obtain ⟨_, _, _, _, _, _, _, _, _, _, _, _, _, _, _, h, _⟩ := at_panic hr hi
    exact h
  have HTB := hid (texts_bk l)
  have HLN := hid (show l.length ≤ 1048576 by have := texts_bk l; omega)
  have HCL := hid (show (crashM l).length ≤ 140737488355000 by have := texts_bk l; have := crash_len l hok; omega)
  have HCC := hid (crash_count l hok)
  obtain ⟨A, c, rfl, hc⟩ := hr.form
  clear hr hbk hok hc
  go_enter Try.func3, Try.ntmps3
  go_wp2
  go_loopw [3, 4] (fun o i wr => ∃ k : Nat, k ≤ l.length ∧ i = .int .i64 k ∧ OPcs wr w.heap.size o (l.take k) ∧ Kp w wr) (fun _ i _ => l.length - (intOf i).toNat)
  case atStart => exact ⟨0, by omega, rfl, OwnL.nil _ _ _ _ _, Kp.refl _⟩
  case round =>
    obtain ⟨k, hk, rfl, ho, hkp⟩ := hrel
    have HO := hid ho; have HKP := hid hkp
    have hwr := hkp.le
    by_cases hlt : k < l.length
    · have i1 : (k : Int) < (l.length : Int) := by omega
      have k1 : IntKind.i64.wrap ((k : Int) + 1) = (k : Int) + 1 := by have := HLN.out; rw [IntKind.wrap_i64]; omega
      obtain ⟨p, hp⟩ : ∃ p, l[k]? = some p := ⟨_, List.getElem?_eq_getElem hlt⟩
      obtain ⟨b, off, rfl, hb, lv, q0, q1, q2, q3, q4, q5, q6, o0, o1, o2, o3, o4, o5⟩ := at_panic (HR.out.kp CePanic.kp hkp) hp
      have HP := hid hp
      obtain ⟨A2, c2, rfl⟩ := o1.form
      have HOV := hid o1
      have HOK := hid (show okP p from ⟨o0, o1.2.1, o2, o3, o4, o5⟩)
      have hlen : (l.take k).length = k := by rw [List.length_take]; omega
      have HLEN := hid hlen
      clear hp o0 o1 o2 o3 o4 o5 ho hkp hlen
      go_upto_region 6 with fail
      have hka := hid ((Kp.refl wr).alloc (.cells #[.int .i64 p.serial, .int .i64 p.val.k, .int .i64 p.val.n, .string p.val.s, .slice A2 p.val.l.length c2, .bool p.rcd, .bool p.abt] 27))
      have HBX := hid (blk_new wr (.cells #[.int .i64 p.serial, .int .i64 p.val.k, .int .i64 p.val.n, .string p.val.s, .slice A2 p.val.l.length c2, .bool p.rcd, .bool p.abt] 27))
      have hzz := hid (show (wr.alloc (.cells #[.int .i64 p.serial, .int .i64 p.val.k, .int .i64 p.val.n, .string p.val.s, .slice A2 p.val.l.length c2, .bool p.rcd, .bool p.abt] 27)).heap.size = wr.heap.size + 1 by simp)
      have HC := hid (own_any _ p.val (wr.alloc (.cells #[.int .i64 p.serial, .int .i64 p.val.k, .int .i64 p.val.n, .string p.val.s, .slice A2 p.val.l.length c2, .bool p.rcd, .bool p.abt] 27)) ⟨_, rfl, HOV.out.kp hka.out, HOK.out.2.2.1, HOK.out.2.2.2.1, HOK.out.2.2.2.2.1, HOK.out.2.2.2.2.2⟩)
      clear q0 q1 q2 q3 q4 q5 q6
      generalize (wr.alloc (.cells #[.int .i64 p.serial, .int .i64 p.val.k, .int .i64 p.val.n, .string p.val.s, .slice A2 p.val.l.length c2, .bool p.rcd, .bool p.abt] 27)) = W1 at hka HBX hzz HC ⊢
      have z1 := blk_cell (o := 1) (v := .int .i64 p.val.k) HBX.out rfl
      have z2 := blk_cell (o := 2) (v := .int .i64 p.val.n) HBX.out rfl
      have z3 := blk_cell (o := 3) (v := .string p.val.s) HBX.out rfl
      have z4 := blk_cell (o := 4) (v := .slice A2 p.val.l.length c2) HBX.out rfl
      have hlx := blk_lt HBX.out
      go_upto_region 7 with (go_at_call 14; go_must (refine HC.out.mono ?_); rintro e' w2 ⟨⟨v2, rfl, lv2, rfl, ho2, _⟩, hk2⟩; rw [hzz.out] at ho2; obtain ⟨A3, c3, rfl⟩ := own_form ho2; have HB2 := hid ((hk2.block _ (blk_lt HBX.out)).trans HBX.out); have HO2 := hid ho2; have HK2 := hid hk2; have y1 := blk_cell (o := 1) (v := .int .i64 p.val.k) HB2.out rfl; have y2 := blk_cell (o := 2) (v := .int .i64 p.val.n) HB2.out rfl; have y3 := blk_cell (o := 3) (v := .string p.val.s) HB2.out rfl; have y4 := blk_cell (o := 4) (v := .slice A2 p.val.l.length c2) HB2.out rfl; have yf := fun j => blk_free (o := j) HB2.out; have hly := blk_lt HB2.out; clear ho2 hk2 z1 z2 z3 z4)
      have HX : Hid (((((w2.setCell ⟨wr.heap.size, 1, none⟩ (.int .i64 p.val.k)).setCell ⟨wr.heap.size, 2, none⟩ (.int .i64 p.val.n)).setCell ⟨wr.heap.size, 3, none⟩ (.string p.val.s)).setCell ⟨wr.heap.size, 4, none⟩ (.slice A3 p.val.l.length c3)).heap[wr.heap.size]? = some (.cells #[.int .i64 p.serial, .int .i64 p.val.k, .int .i64 p.val.n, .string p.val.s, .slice A3 p.val.l.length c3, .bool p.rcd, .bool p.abt] 27 (0, 0))) := hid (blk_set (blk_set (blk_set (blk_set HB2.out _) _) _) _)
      have HM : Hid (OwnI ((((w2.setCell ⟨wr.heap.size, 1, none⟩ (.int .i64 p.val.k)).setCell ⟨wr.heap.size, 2, none⟩ (.int .i64 p.val.n)).setCell ⟨wr.heap.size, 3, none⟩ (.string p.val.s)).setCell ⟨wr.heap.size, 4, none⟩ (.slice A3 p.val.l.length c3)) (wr.heap.size + 1) (.slice A3 p.val.l.length c3) p.val.l) := hid (ownsRow_setCell_below (ownsRow_setCell_below (ownsRow_setCell_below (ownsRow_setCell_below HO2.out (by simp) _) (by simp) _) (by simp) _) (by simp) _)
      have HK : Hid (Kp wr ((((w2.setCell ⟨wr.heap.size, 1, none⟩ (.int .i64 p.val.k)).setCell ⟨wr.heap.size, 2, none⟩ (.int .i64 p.val.n)).setCell ⟨wr.heap.size, 3, none⟩ (.string p.val.s)).setCell ⟨wr.heap.size, 4, none⟩ (.slice A3 p.val.l.length c3))) := hid (((((hka.out.trans HK2.out).setCell (Nat.le_refl _) _).setCell (Nat.le_refl _) _).setCell (Nat.le_refl _) _).setCell (Nat.le_refl _) _)
      clear y1 y2 y3 y4 yf hlx hly
      generalize ((((w2.setCell ⟨wr.heap.size, 1, none⟩ (.int .i64 p.val.k)).setCell ⟨wr.heap.size, 2, none⟩ (.int .i64 p.val.n)).setCell ⟨wr.heap.size, 3, none⟩ (.string p.val.s)).setCell ⟨wr.heap.size, 4, none⟩ (.slice A3 p.val.l.length c3)) = W at HX HM HK ⊢
      have x0 := blk_cell (o := 0) (v := .int .i64 p.serial) HX.out rfl
      have x1 := blk_cell (o := 1) (v := .int .i64 p.val.k) HX.out rfl
      have x2 := blk_cell (o := 2) (v := .int .i64 p.val.n) HX.out rfl
      have x3 := blk_cell (o := 3) (v := .string p.val.s) HX.out rfl
      have x4 := blk_cell (o := 4) (v := .slice A3 p.val.l.length c3) HX.out rfl
      have x5 := blk_cell (o := 5) (v := .bool p.rcd) HX.out rfl
      have x6 := blk_cell (o := 6) (v := .bool p.abt) HX.out rfl
      have hlx := blk_lt HX.out
      obtain ⟨xs, hown, hch⟩ := HO.out.kp HK.out
      rw [HLEN.out] at hown
      have HCH := hid hch; have HOWN := hid hown
      have B1 := hid (show k + 1 ≤ maxLen by have := HLN.out; unfold maxLen; omega)
      have B2 := hid (show (k + 1) * 72 ≤ 140737488355328 by have := HLN.out; omega)
      have B3 := hid (Nat.le_trans hwr HK.out.le)
      obtain ⟨Ao, co, rfl⟩ := own_form hown
      clear hown hch
      go_wp2_with (at_builtin; go_must (refine app_lit_at W.heap.size rfl elPanic rfl (.tmp 24) (.tmp 26) rfl HOWN.out rfl _ _ 1 1 rfl rfl (by intro u hu; simp at hu; rcases hu with rfl | rfl | rfl | rfl | rfl | rfl | rfl <;> rfl) B1.out B2.out B3.out ?_); intro v5 w5 hown5 hg5 hm5 hb5; have HN5 : Hid (OPcs w5 w.heap.size v5 (l.take (k + 1))) := hid (by rw [List.take_add_one, HP.out]; exact OPcs.snoc (p := p) (lv := .slice A3 p.val.l.length c3) HCH.out (by rw [HLEN.out]; exact HOWN.out) hg5 (by rw [HLEN.out]) hown5 HM.out (Nat.le_trans hwr (Nat.le_succ _)) HOK.out); obtain ⟨A5, c5, rfl⟩ := own_form hown5; have HK5 := hid (Below.trans (HKP.out.trans HK.out) hb5); clear hown5 hg5 hm5 hb5)
      go_roundw
      case rel => exact ⟨k + 1, hlt, by simp, HN5.out, HK5.out⟩
      case measure => simp [intOf]; omega
    · obtain rfl : k = l.length := by omega
      have i1 : ¬ (l.length : Int) < (l.length : Int) := by omega
      rw [List.take_length] at ho
      have HM := hid ho
      obtain ⟨xs, hown, hch⟩ := id ho
      obtain ⟨Ao, co, rfl⟩ := own_form hown
      clear ho hown hch HO hlt hk
      obtain ⟨C, hC⟩ : ∃ C, crashM l = C := ⟨_, rfl⟩
      have HCR := hid (crash_any wr _ l HM.out.rd HCL.out (by have := HLN.out; omega))
      have HLS := hid (crash_last l)
      have HNL := hid (show l = [] → crashM l = [] by rintro rfl; rfl)
      rw [hC] at HCR HCL HCC HLS HNL
      clear hC
      obtain ⟨T, hT⟩ : ∃ T : ByteArray, (⟨C.toArray⟩ : ByteArray) = T := ⟨_, rfl⟩
      have HTS := hid (show T.size = C.length by rw [← hT]; simp [ByteArray.size])
      have HTD := hid (show T.data.toList = C by rw [← hT])
      rw [hT] at HCR
      clear hT
      have HTL := hid (show T.size ≤ 140737488355000 by rw [HTS.out]; exact HCL.out)
      go_wp2_with (go_at_call 15; go_must (refine HCR.out.mono ?_); rintro e w3 ⟨rfl, hk3⟩; have HK3 := hid (HKP.out.trans hk3); have HM3 := hid (HM.out.kp hk3); clear hk3)
      go_loop [7, 8] (fun n j => ∃ i : Nat, i ≤ T.size ∧ j = .int .i64 (i : Int) ∧ n = .int .i64 (((C.take i).count 10 : Nat) : Int)) (fun _ j => T.size - (intOf j).toNat)
      case atStart => exact ⟨0, by omega, rfl, by simp⟩
      case round =>
        obtain ⟨i, hi, rfl, rfl⟩ := hrel
        by_cases hlt : i < T.size
        · have i2 : (i : Int) < (T.size : Int) := by omega
          have k1 : IntKind.i64.wrap ((i : Int) + 1) = (i : Int) + 1 := by have := HTL.out; rw [IntKind.wrap_i64]; omega
          obtain ⟨c, hc⟩ : ∃ c, T[i] = c := ⟨_, rfl⟩
          have HCT := hid (show C.take (i + 1) = C.take i ++ [c] by
            have h : C[i]? = some c := by rw [← HTD.out, List.getElem?_eq_getElem (by rw [Array.length_toList]; exact hlt)]; simp; exact hc
            rw [List.take_add_one, h]; rfl)
          obtain ⟨cv, hcv⟩ : ∃ cv : Int, (c.toNat : Int) = cv := ⟨_, rfl⟩
          have HCV := hid hcv
          obtain ⟨N, hN⟩ : ∃ N : Nat, (C.take i).count 10 = N := ⟨_, rfl⟩
          have HN := hid hN
          have k2 : IntKind.i64.wrap ((N : Int) + 1) = (N : Int) + 1 := by
            have h := HTL.out
            have h2 : N ≤ i := by rw [← hN]; exact Nat.le_trans List.count_le_length (by rw [List.length_take]; omega)
            rw [IntKind.wrap_i64]; omega
          rw [hN]
          clear hN
          by_cases h10 : c = 10
          · have tt : (cv == 10) = true := by rw [← hcv, h10]; rfl
            have HNX := hid (show (C.take (i + 1)).count 10 = N + 1 by rw [HCT.out, List.count_append, HN.out, h10]; rfl)
            clear h10
            go_wp2
            go_round
            case rel => exact ⟨i + 1, hlt, by simp, by rw [HNX.out]; rfl⟩
            case measure => simp [intOf]; omega
          · have tt : (cv == 10) = false := by
              rw [← hcv, beq_eq_false_iff_ne]; intro h; exact h10 (UInt8.toNat_inj.1 (by have : (10 : UInt8).toNat = 10 := by decide
                                                                                         omega))
            have HNX := hid (show (C.take (i + 1)).count 10 = N by rw [HCT.out, List.count_append, HN.out, List.count_cons_of_ne (by exact h10)]; rfl)
            clear h10
            go_wp2
            go_round
            case rel => exact ⟨i + 1, hlt, by simp, by rw [HNX.out]⟩
            case measure => simp [intOf]; omega
        · have i2 : ¬ (i : Int) < (T.size : Int) := by omega
          obtain rfl : i = T.size := by omega
          have HALL := hid (show (C.take T.size).count 10 = l.length by rw [HTS.out, List.take_length]; exact HCC.out)
          rw [HALL.out]
          clear hlt hi
          have t3 : ((⟨#[112, 97, 110, 105, 99, 58, 32, 51, 10]⟩ : ByteArray).toList == [112, 97, 110, 105, 99, 58, 32, 51, 10]) = true := by rw [ByteArray.toList_eq]; rfl
          by_cases he : l = []
          · have te : (T.toList == []) = true := by rw [ByteArray.toList_eq, HTD.out, HNL.out he]; rfl
            go_wp2_with (refine (crash3_any w3).mono ?_; rintro e w4 ⟨rfl, hk4⟩)
            go_ret
            exact ⟨rfl, Kp.trans HK3.out hk4⟩
          · obtain ⟨X, hX⟩ := HLS.out he
            have hsz : T.size = X.length + 1 := by rw [HTS.out, hX, List.length_append]; rfl
            have te : (T.toList == []) = false := by rw [ByteArray.toList_eq, HTD.out, hX]; cases X <;> rfl
            obtain ⟨m, hm⟩ : ∃ m, X.length = m := ⟨_, rfl⟩
            rw [hm] at hsz
            have k3 : IntKind.i64.wrap ((T.size : Int) - 1) = (m : Int) := by have := HTL.out; rw [IntKind.wrap_i64]; omega
            have i3 : (m : Int) < (T.size : Int) := by omega
            have hmt : m < T.size := by omega
            have hc : T[m] = 10 := by
              have h : C[m]? = some 10 := by rw [hX, ← hm]; simp
              rw [← HTD.out, List.getElem?_eq_getElem (by rw [Array.length_toList]; exact hmt)] at h
              show T.data[m] = 10
              simpa using h
            have h10 : ((10 : UInt8).toNat : Int) = 10 := by decide
            clear hX hsz hm
            go_wp2_with (refine (crash3_any w3).mono ?_; rintro e w4 ⟨rfl, hk4⟩)
            go_ret
            exact ⟨rfl, Kp.trans HK3.out hk4⟩
/-! ### The row's step (the guide's frame, written by program) -/
set_option maxRecDepth 100000 in
theorem lifted (os : Os) (started : os.Started) (H : Type) (enc : TypeId × Value → H) (F : Stop.Interp) :
    ReturnsInHanded {} Try.checked os 3 .any ((Rows.OpenSpec.upto Rows.reportRowsSpec).pre6 enc Try.prog Try.f3 Rows.reportRowsUptoRow.domain false) (((Rows.OpenSpec.upto Rows.reportRowsSpec).at F).post enc Try.prog Try.f3 false true false false) := by
  refine returnsInHanded_of_cond_sized (C := Try.checked) (s := Rows.OpenSpec.upto Rows.reportRowsSpec) (k := Rows.uptoSmall) rfl own started (by kernel_rfl) Try.func3
    (OpenSpec.witness (enc := enc) (C := Try.checked) (s := Rows.OpenSpec.upto Rows.reportRowsSpec) (k := Rows.uptoSmall) rfl false ⟨#[], #[.slice none 0 0], []⟩ 8 (by kernel_rfl) (by kernel_rfl) (by kernel_rfl)
      (x := ([.nil], [], [])) (by kernel_rfl) rfl (by kernel_rfl)) ?_
  intro W base args ds gs before hval0 hW _ hk0 hsz0 _
  have hsz : (DataW.weightsEach Try.prog (Try.f3.params.toList ++ (Rows.OpenSpec.upto Rows.reportRowsSpec).bare.plain.varTypes Try.prog) (ds ++ gs)).all (· ≤ reachBytes) = true := hsz0
  clear hsz0
  have hval : ∀ (j : Nat) t v, Try.f3.params[j]? = some t → args[j]? = some v → Value.okWide Try.prog W .any base t v := hval0
  have hW' := hW
  obtain ⟨p, q, hA0, hV, rfl, hfz, hnd⟩ := hW
  have hA : DataW.TrodAll enc Try.prog W 0 (fun _ => true) true Try.f3.params.toList args.toList ds p := hA0
  rw [Try.params3] at hA hval hsz
  obtain ⟨v0, vs0, d0, ds0, p0, q0, hargs, rfl, rfl, h0, r0⟩ := trodAll_cons hA
  obtain ⟨rfl, rfl, rfl⟩ := trodAll_nil r0
  obtain rfl : args = #[v0] := by cases args; simp_all
  obtain ⟨rfl, rfl⟩ := trodVars_none hV
  have hbk : Rows.uptoBulkAll [d0] ≤ 1048576 := of_decide_eq_true hk0
  simp only [Rows.uptoBulkAll] at hbk
  have hb0 : Rows.uptoBulk d0 ≤ 1048576 := by omega
  clear hk0 hbk
  have k0 := h0
  have lt0 : ∀ x ∈ p0, x.block < W.heap.size := by obtain ⟨m, hm⟩ := k0; exact DataW.trod_lt m _ _ _ hm
  have hz0 : ∀ n ∈ DataW.weights Try.prog 22 d0, n ≤ reachBytes := fun n hn => by
    have := List.all_eq_true.1 hsz _ (DataW.weights_mem_each (j := 0) rfl rfl n hn)
    simpa using this
  obtain ⟨a0, w0⟩ := open_panicsU (hval 0 22 v0 rfl rfl) h0 hz0 hb0
  clear hA0 hval0
  simp only [List.append_nil] at hW'
  refine (walk v0 a0 W w0).mono fun e W' ⟨he, bel⟩ => ?_
  subst he
  exact ⟨_, rfl, _, _, _, [], _, [], hW', trodAll_mk1 (shut_bool Try.underlying4 _), (trodAll_cons_mk (Below.trod laidOut (by kernel_rfl) (of_decide_eq_true (by kernel_rfl)) k0 bel lt0) trodAll_mk0), rfl, Below.frame bel _, fun h => by cases h⟩

theorem over : Rows.reportRowsUptoRow.holds Try.pinned (Rows.OpenSpec.upto Rows.reportRowsSpec) :=
  OpenClaim.holds_of_cond 3 Try.f3 rfl rfl rfl rfl rfl rfl rfl ⟨rfl, rfl, rfl, rfl, rfl⟩ rfl rfl rfl rfl rfl (by kernel_rfl) Try.func3 (by kernel_rfl)
    (of_decide_eq_true (by kernel_rfl)) (by unfold Func.isWrapper; rw [if_neg (of_decide_eq_false (by kernel_rfl))]; exact ⟨rfl, rfl⟩)
    (fun os started H enc _ F => lifted os started H enc F)

/-- THE STATEMENT. -/
theorem proved : Rows.ReportRowsUptoSaid := over
#print axioms proved

end Go.Proofs.Ytlfgofjmcegeiaa.reportRows
