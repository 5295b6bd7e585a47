/-
  Package report: Crash. Condition: the crash is at most 2^47 bytes.
-/
import Derived.Test.YtiicdknmoakocaaRepT
import Derived.Test.YtiicdknmoakocaaPnc
import Derived.Test.YtiicdknmoakocaaBuild
namespace Go.Proofs.Ytiicdknmoakocaa
open Go.RowKit
set_option linter.unusedVariables false
set_option linter.unusedSimpArgs false

def panicB : List UInt8 := [112, 97, 110, 105, 99, 58, 32]
def recB : List UInt8 := [32, 91, 114, 101, 99, 111, 118, 101, 114, 101, 100, 93]
/-- What is told of a panic, behind the mark of one that is not the first. -/
def pncM (p : PanicM) : List UInt8 := (panicB ++ rtextM p.val.k p.val.n p.val.s) ++ ((if p.rcd then recB else []) ++ [10])
def crashM : List PanicM → List UInt8
  | [] => []
  | p :: l => pncM p ++ (l.map fun p => 9 :: pncM p).flatten
theorem crash_zero : crashM [] = [] := rfl
theorem crash_one (p : PanicM) : crashM [p] = pncM p := by simp [crashM]
theorem crash_snoc (l : List PanicM) (p : PanicM) (h : l ≠ []) : crashM (l ++ [p]) = crashM l ++ (9 :: pncM p) := by
  match l, h with
  | q :: l, _ => simp [crashM]
theorem crash_take {l : List PanicM} {k : Nat} {p : PanicM} (h : l[k]? = some p) : crashM (l.take (k + 1)) = crashM (l.take k) ++ ((if k = 0 then [] else [9]) ++ pncM p) := by
  have e : l.take (k + 1) = l.take k ++ [p] := by rw [List.take_add_one, h]; rfl
  rw [e]
  cases k with
  | zero => simp [crashM]
  | succ k =>
    rw [crash_snoc _ _ (by
      intro h0
      have h1 := congrArg List.length h0
      rw [List.length_take] at h1
      have h2 : k + 1 < l.length := by
        rcases Nat.lt_or_ge (k + 1) l.length with h | h'
        · exact h
        · rw [List.getElem?_eq_none h'] at h; cases h
      simp only [List.length_nil] at h1; omega), if_neg (by omega)]
    rfl
theorem crash_pre (l : List PanicM) (k : Nat) : (crashM (l.take k)).length ≤ (crashM l).length := by
  match l, k with
  | [], k => simp
  | p :: l, 0 => simp [crashM]
  | p :: l, k + 1 =>
    simp only [List.take_succ_cons, crashM, List.length_append]
    have h : (((l.take k).map fun p => 9 :: pncM p).flatten).length ≤ ((l.map fun p => 9 :: pncM p).flatten).length := by
      conv => rhs; rw [← List.take_append_drop k l]
      rw [List.map_append, List.flatten_append, List.length_append]; omega
    omega
theorem wb_is (c : UInt8) (n : Int) (hc : (c.toNat : Int) = n) (B b : Nat) (l : List UInt8) (w : World) (h : IsB w B b l) (hlen : l.length + 1 ≤ 140737488355328) (hBw : B ≤ w.heap.size) : Calls Try.prog 34 #[.pointer (some ⟨b, 0, none⟩), .int .u8 n] w fun e w' => e = .returned .nilIface ∧ IsB w' B b (l ++ [c]) ∧ Below B w w' ∧ OthB b w w' := by
  rw [← hc]; exact wbyte_any B b l c w h hlen hBw
/-- The state of Crash's loop. -/
structure CrI (w : World) (bb : Nat) (l : List PanicM) (k : Nat) (wr : World) : Prop where
  b : IsB wr bb bb (crashM (l.take k))
  kp : Below bb w wr
  le : bb ≤ wr.heap.size
theorem cr_round {w u : World} {bb k n : Nat} {l : List PanicM} (hl : k < n) (h : CrI w bb l (k + 1) u) : (∃ k' : Nat, k' ≤ n ∧ Value.int .i64 ((k : Int) + 1) = .int .i64 (k' : Int) ∧ CrI w bb l k' u) ∧ n - (intOf (.int .i64 ((k : Int) + 1))).toNat < n - (intOf (.int .i64 (k : Int))).toNat :=
  ⟨⟨k + 1, hl, by congr 1, h⟩, by simp only [intOf, Int.toNat_natCast]; omega⟩
set_option maxRecDepth 20000 in
set_option maxHeartbeats 8000000 in
theorem crash_any (w : World) (v : Value) (l : List PanicM) (h : RdL CePanic 7 w v l) (hlen : (crashM l).length ≤ 140737488355000) (hn : l.length ≤ 1000000000000) : Calls Try.prog 15 #[v] w fun e w' => e = .returned (.string ⟨(crashM l).toArray⟩) ∧ Kp w w' := by
  have HR := hid h
  obtain ⟨A, cc, rfl, hcc⟩ := h.form
  clear h hcc
  have HLEN := hid hlen
  have HNN := hid hn
  clear hlen hn
  have HB0 := hid (IsB.new w)
  have HKA := hid (show Kp w (w.alloc (.cells #[.pointer none, .slice none 0 0] 86)) from (Kp.refl _).alloc _)
  go_enter Try.func15, Try.ntmps15
  go_wp2_with fail
  generalize (w.alloc (.cells #[.pointer none, .slice none 0 0] 86)) = W at HB0 HKA ⊢
  obtain ⟨bb, hbb⟩ : ∃ bb, w.heap.size = bb := ⟨_, rfl⟩
  rw [hbb] at HB0 ⊢
  have HBB := hid hbb
  clear hbb
  go_loopw [8] (fun i wr => ∃ k : Nat, k ≤ l.length ∧ i = .int .i64 (k : Int) ∧ CrI W bb l k wr) (fun i _ => l.length - (intOf i).toNat)
  case atStart => exact ⟨0, Nat.zero_le _, rfl, ⟨by simpa [crashM] using HB0.out, Below.refl _ _, by have := HKA.out.le; have := HBB.out; omega⟩⟩
  case round =>
    obtain ⟨k, hk, rfl, hcr⟩ := hrel
    have HCR := hid hcr
    have HKW := hid (show Kp w wr from by have h := hcr.kp; rw [← HBB.out] at h; exact Below.trans HKA.out h)
    by_cases hlt : k < l.length
    · have i1 : (k : Int) < (l.length : Int) := by omega
      have k1 : IntKind.i64.wrap ((k : Int) + 1) = (k : Int) + 1 := by have := HNN.out; rw [IntKind.wrap_i64]; omega
      obtain ⟨p, hp⟩ : ∃ p, l[k]? = some p := ⟨_, List.getElem?_eq_getElem hlt⟩
      obtain ⟨b, off, rfl, hb, lv, q0, q1, q2, q3, q4, q5, q6, _, hlv, _, okn, oks, _⟩ := at_panic (HR.out.kp CePanic.kp HKW.out) hp
      obtain ⟨Av, cv, rfl⟩ := hlv.form
      have HTK := hid (crash_take hp)
      have HPRE := hid (crash_pre l (k + 1))
      have HOKN := hid okn
      have HOKS := hid oks
      clear hcr hp hlv okn oks hk
      go_upto_region 5 with fail
      have HBX := hid (blk_new wr (Obj.cells #[.int .i64 p.serial, .int .i64 p.val.k, .int .i64 p.val.n, .string p.val.s, .slice Av p.val.l.length cv, .bool p.rcd, .bool p.abt] 46))
      have HKB := hid (show Kp wr (wr.alloc (Obj.cells #[.int .i64 p.serial, .int .i64 p.val.k, .int .i64 p.val.n, .string p.val.s, .slice Av p.val.l.length cv, .bool p.rcd, .bool p.abt] 46)) from (Kp.refl _).alloc _)
      generalize (wr.alloc (Obj.cells #[.int .i64 p.serial, .int .i64 p.val.k, .int .i64 p.val.n, .string p.val.s, .slice Av p.val.l.length cv, .bool p.rcd, .bool p.abt] 46)) = W2 at HBX HKB ⊢
      obtain ⟨xb, hxb⟩ : ∃ xb, wr.heap.size = xb := ⟨_, rfl⟩
      rw [hxb] at HBX ⊢
      have HXN := hid (show xb ≠ bb by have h9 := HCR.out.b; intro e; rcases h9 with ⟨_, v, h9, _⟩ | ⟨_, v, h9, _⟩ <;> (have := blk_lt h9; omega))
      have HB2 := hid (HCR.out.b.kp HKB.out)
      have HL2 := hid (Nat.le_trans HCR.out.le HKB.out.le)
      have HU2 := hid (Below.trans HCR.out.kp (Below.mono HKB.out HCR.out.le))
      clear hxb q0 q1 q2 q3 q4 q5 q6
      obtain ⟨T, hT⟩ : ∃ T, crashM (l.take k) = T := ⟨_, rfl⟩
      rw [hT] at HTK HB2
      obtain ⟨X, hX⟩ : ∃ X, rtextM p.val.k p.val.n p.val.s = X := ⟨_, rfl⟩
      have HTX := hid (show ∀ w, Calls Try.prog 36 #[.agg #[.int .i64 p.val.k, .int .i64 p.val.n, .string p.val.s, .slice Av p.val.l.length cv]] w fun e w' => e = .returned (.string ⟨X.toArray⟩) ∧ Kp w w' by rw [← hX]; exact fun w => rtext_any p.val.k p.val.n p.val.s Av p.val.l.length cv HOKN.out HOKS.out w)
      have HPN := hid (show pncM p = (panicB ++ X) ++ ((if p.rcd then recB else []) ++ [10]) by rw [← hX]; rfl)
      have HLN := hid (show (crashM (l.take (k + 1))).length ≤ 140737488355000 from Nat.le_trans HPRE.out HLEN.out)
      clear hT hX
      obtain ⟨S, hS⟩ : ∃ S : ByteArray, (⟨X.toArray⟩ : ByteArray) = S := ⟨_, rfl⟩
      have HSS := hid (show S.size = X.length by rw [← hS]; simp [ByteArray.size])
      have HSD := hid (show S.data.toList = X by rw [← hS])
      rw [hS] at HTX
      clear hS
      obtain ⟨P, hP⟩ : ∃ P : ByteArray, (⟨#[112, 97, 110, 105, 99, 58, 32]⟩ : ByteArray) ++ S = P := ⟨_, rfl⟩
      have HPS := hid (show P.size = X.length + 7 by rw [← hP, ByteArray.size_append, HSS.out]; exact Nat.add_comm _ _)
      have HPD := hid (show P.data.toList = panicB ++ X by rw [← hP, ← HSD.out]; simp [panicB])
      cases hrc : p.rcd with
      | true =>
        have HRC := hid hrc
        rw [hrc] at HBX
        clear hrc
        rcases Nat.eq_zero_or_pos k with h0 | h0
        · have i2 : ¬ (0 : Int) < (k : Int) := by omega
          have HK0 := hid h0
          clear h0
          go_upto_region 7 with fail
          have HBa := HB2; have HLa := HL2; have HUa := HU2; have HBXa := HBX
          have HLM := hid (show T.length + 0 + ((X.length + 7) + (12 + 1)) ≤ 140737488355000 by have h := HLN.out; rw [HTK.out, HPN.out, HRC.out] at h; simp [panicB, recB, HK0.out] at h ⊢; omega)
          have ad : ∀ w, Sem.run Try.prog (Op.stringOp .add ⟨#[112, 97, 110, 105, 99, 58, 32]⟩ S) w = .ok (.string P) w := fun w => by rw [← hP]; exact run_string_add_sum w _ _ (by have h0 := HSS.out; have h1 := HLM.out; rw [h0]; show 7 + X.length ≤ _; omega)
          clear hP
          have z1 := blk_cell (o := 1) (v := .int .i64 p.val.k) HBXa.out rfl
          have z2 := blk_cell (o := 2) (v := .int .i64 p.val.n) HBXa.out rfl
          have z3 := blk_cell (o := 3) (v := .string p.val.s) HBXa.out rfl
          have z4 := blk_cell (o := 4) (v := .slice Av p.val.l.length cv) HBXa.out rfl
          have hlx := blk_lt HBXa.out
          go_upto_region 8 with (first | (go_at_call 36; go_must (refine (HTX.out _).mono ?_); rintro e w9 ⟨rfl, hk9⟩; have HK9 := hid hk9; have HB9 := hid (HBa.out.kp hk9); have HL9 := hid (Nat.le_trans HLa.out hk9.le); have HBX9 := hid ((hk9.block _ (blk_lt HBXa.out)).trans HBXa.out); clear hk9 z1 z2 z3 z4) | (go_at_call 35; go_must (refine (wstr_any bb bb _ P _ HB9.out (by rw [HPS.out]; (try simp only [List.length_append, List.length_cons, List.length_nil]); have := HLM.out; omega) HL9.out).mono ?_); rintro e w10 ⟨rfl, hs, hb, ho⟩; have HB10 := hid hs; have HU10 := hid hb; have HL10 := hid (Nat.le_trans HL9.out hb.size); have HBX10 := hid (ho xb _ HXN.out HBX9.out (fun cs fr e => by injection e with _ h9 _; exact absurd h9 (by decide))); clear hs hb ho))
          have z5 := blk_cell (o := 5) (v := .bool true) HBX10.out rfl
          have hly := blk_lt HBX10.out
          go_upto_region 10 with (go_at_call 35; go_must (refine (wstr_any bb bb _ ⟨#[32, 91, 114, 101, 99, 111, 118, 101, 114, 101, 100, 93]⟩ _ HB10.out (by simp only [List.length_append, HPD.out, panicB, List.length_cons, List.length_nil]; have := HLM.out; show _ + 12 ≤ _; omega) HL10.out).mono ?_); rintro e w11 ⟨rfl, hs, hb, ho⟩; have HB11 := hid hs; have HU11 := hid hb; have HL11 := hid (Nat.le_trans HL10.out hb.size); clear hs hb ho)
          go_wp2_with (go_at_call 34; go_must (refine (wb_is 10 10 rfl bb bb _ _ HB11.out (by simp only [List.length_append, HPD.out, panicB, List.length_cons, List.length_nil]; have := HLM.out; show _ + 12 + 1 ≤ _; omega) HL11.out).mono ?_); rintro e w12 ⟨rfl, hs, hb, ho⟩; have HB12 := hid hs; have HU12 := hid hb; clear hs hb ho)
          refine cr_round hlt ⟨?_, (Below.trans HUa.out (Below.trans (Below.mono HK9.out HLa.out) (Below.trans HU10.out (Below.trans HU11.out HU12.out)))), (Nat.le_trans HL11.out HU12.out.size)⟩
          have h := HB12.out; rw [HPD.out] at h; rw [HTK.out, HPN.out, HRC.out]; simpa [HK0.out, recB, List.append_assoc] using h
        · have i2 : (0 : Int) < (k : Int) := by omega
          have HK0 := hid (show k ≠ 0 by omega)
          clear h0
          have HL6 := hid (show T.length + 1 ≤ 140737488355328 by have h := HLN.out; rw [HTK.out] at h; simp [HK0.out] at h; omega)
          go_upto_region 7 with (go_at_call 34; go_must (refine (wb_is 9 9 rfl bb bb _ _ HB2.out HL6.out HL2.out).mono ?_); rintro e w6 ⟨rfl, hs, hb, ho⟩; have HBa := hid hs; have HUa := hid (Below.trans HU2.out hb); have HLa := hid (Nat.le_trans HL2.out hb.size); have HBXa := hid (ho xb _ HXN.out HBX.out (fun cs fr e => by injection e with _ h9 _; exact absurd h9 (by decide))); clear hs hb ho)
          have HLM := hid (show T.length + 1 + ((X.length + 7) + (12 + 1)) ≤ 140737488355000 by have h := HLN.out; rw [HTK.out, HPN.out, HRC.out] at h; simp [panicB, recB, HK0.out] at h ⊢; omega)
          have ad : ∀ w, Sem.run Try.prog (Op.stringOp .add ⟨#[112, 97, 110, 105, 99, 58, 32]⟩ S) w = .ok (.string P) w := fun w => by rw [← hP]; exact run_string_add_sum w _ _ (by have h0 := HSS.out; have h1 := HLM.out; rw [h0]; show 7 + X.length ≤ _; omega)
          clear hP
          have z1 := blk_cell (o := 1) (v := .int .i64 p.val.k) HBXa.out rfl
          have z2 := blk_cell (o := 2) (v := .int .i64 p.val.n) HBXa.out rfl
          have z3 := blk_cell (o := 3) (v := .string p.val.s) HBXa.out rfl
          have z4 := blk_cell (o := 4) (v := .slice Av p.val.l.length cv) HBXa.out rfl
          have hlx := blk_lt HBXa.out
          go_upto_region 8 with (first | (go_at_call 36; go_must (refine (HTX.out _).mono ?_); rintro e w9 ⟨rfl, hk9⟩; have HK9 := hid hk9; have HB9 := hid (HBa.out.kp hk9); have HL9 := hid (Nat.le_trans HLa.out hk9.le); have HBX9 := hid ((hk9.block _ (blk_lt HBXa.out)).trans HBXa.out); clear hk9 z1 z2 z3 z4) | (go_at_call 35; go_must (refine (wstr_any bb bb _ P _ HB9.out (by rw [HPS.out]; (try simp only [List.length_append, List.length_cons, List.length_nil]); have := HLM.out; omega) HL9.out).mono ?_); rintro e w10 ⟨rfl, hs, hb, ho⟩; have HB10 := hid hs; have HU10 := hid hb; have HL10 := hid (Nat.le_trans HL9.out hb.size); have HBX10 := hid (ho xb _ HXN.out HBX9.out (fun cs fr e => by injection e with _ h9 _; exact absurd h9 (by decide))); clear hs hb ho))
          have z5 := blk_cell (o := 5) (v := .bool true) HBX10.out rfl
          have hly := blk_lt HBX10.out
          go_upto_region 10 with (go_at_call 35; go_must (refine (wstr_any bb bb _ ⟨#[32, 91, 114, 101, 99, 111, 118, 101, 114, 101, 100, 93]⟩ _ HB10.out (by simp only [List.length_append, HPD.out, panicB, List.length_cons, List.length_nil]; have := HLM.out; show _ + 12 ≤ _; omega) HL10.out).mono ?_); rintro e w11 ⟨rfl, hs, hb, ho⟩; have HB11 := hid hs; have HU11 := hid hb; have HL11 := hid (Nat.le_trans HL10.out hb.size); clear hs hb ho)
          go_wp2_with (go_at_call 34; go_must (refine (wb_is 10 10 rfl bb bb _ _ HB11.out (by simp only [List.length_append, HPD.out, panicB, List.length_cons, List.length_nil]; have := HLM.out; show _ + 12 + 1 ≤ _; omega) HL11.out).mono ?_); rintro e w12 ⟨rfl, hs, hb, ho⟩; have HB12 := hid hs; have HU12 := hid hb; clear hs hb ho)
          refine cr_round hlt ⟨?_, (Below.trans HUa.out (Below.trans (Below.mono HK9.out HLa.out) (Below.trans HU10.out (Below.trans HU11.out HU12.out)))), (Nat.le_trans HL11.out HU12.out.size)⟩
          have h := HB12.out; rw [HPD.out] at h; rw [HTK.out, HPN.out, HRC.out]; simpa [HK0.out, recB, List.append_assoc] using h
      | false =>
        have HRC := hid hrc
        rw [hrc] at HBX
        clear hrc
        rcases Nat.eq_zero_or_pos k with h0 | h0
        · have i2 : ¬ (0 : Int) < (k : Int) := by omega
          have HK0 := hid h0
          clear h0
          go_upto_region 7 with fail
          have HBa := HB2; have HLa := HL2; have HUa := HU2; have HBXa := HBX
          have HLM := hid (show T.length + 0 + ((X.length + 7) + (0 + 1)) ≤ 140737488355000 by have h := HLN.out; rw [HTK.out, HPN.out, HRC.out] at h; simp [panicB, recB, HK0.out] at h ⊢; omega)
          have ad : ∀ w, Sem.run Try.prog (Op.stringOp .add ⟨#[112, 97, 110, 105, 99, 58, 32]⟩ S) w = .ok (.string P) w := fun w => by rw [← hP]; exact run_string_add_sum w _ _ (by have h0 := HSS.out; have h1 := HLM.out; rw [h0]; show 7 + X.length ≤ _; omega)
          clear hP
          have z1 := blk_cell (o := 1) (v := .int .i64 p.val.k) HBXa.out rfl
          have z2 := blk_cell (o := 2) (v := .int .i64 p.val.n) HBXa.out rfl
          have z3 := blk_cell (o := 3) (v := .string p.val.s) HBXa.out rfl
          have z4 := blk_cell (o := 4) (v := .slice Av p.val.l.length cv) HBXa.out rfl
          have hlx := blk_lt HBXa.out
          go_upto_region 8 with (first | (go_at_call 36; go_must (refine (HTX.out _).mono ?_); rintro e w9 ⟨rfl, hk9⟩; have HK9 := hid hk9; have HB9 := hid (HBa.out.kp hk9); have HL9 := hid (Nat.le_trans HLa.out hk9.le); have HBX9 := hid ((hk9.block _ (blk_lt HBXa.out)).trans HBXa.out); clear hk9 z1 z2 z3 z4) | (go_at_call 35; go_must (refine (wstr_any bb bb _ P _ HB9.out (by rw [HPS.out]; (try simp only [List.length_append, List.length_cons, List.length_nil]); have := HLM.out; omega) HL9.out).mono ?_); rintro e w10 ⟨rfl, hs, hb, ho⟩; have HB10 := hid hs; have HU10 := hid hb; have HL10 := hid (Nat.le_trans HL9.out hb.size); have HBX10 := hid (ho xb _ HXN.out HBX9.out (fun cs fr e => by injection e with _ h9 _; exact absurd h9 (by decide))); clear hs hb ho))
          have z5 := blk_cell (o := 5) (v := .bool false) HBX10.out rfl
          have hly := blk_lt HBX10.out
          go_wp2_with (go_at_call 34; go_must (refine (wb_is 10 10 rfl bb bb _ _ HB10.out (by simp only [List.length_append, HPD.out, panicB, List.length_cons, List.length_nil]; have := HLM.out; omega) HL10.out).mono ?_); rintro e w12 ⟨rfl, hs, hb, ho⟩; have HB12 := hid hs; have HU12 := hid hb; clear hs hb ho)
          refine cr_round hlt ⟨?_, (Below.trans HUa.out (Below.trans (Below.mono HK9.out HLa.out) (Below.trans HU10.out HU12.out))), (Nat.le_trans HL10.out HU12.out.size)⟩
          have h := HB12.out; rw [HPD.out] at h; rw [HTK.out, HPN.out, HRC.out]; simpa [HK0.out, recB, List.append_assoc] using h
        · have i2 : (0 : Int) < (k : Int) := by omega
          have HK0 := hid (show k ≠ 0 by omega)
          clear h0
          have HL6 := hid (show T.length + 1 ≤ 140737488355328 by have h := HLN.out; rw [HTK.out] at h; simp [HK0.out] at h; omega)
          go_upto_region 7 with (go_at_call 34; go_must (refine (wb_is 9 9 rfl bb bb _ _ HB2.out HL6.out HL2.out).mono ?_); rintro e w6 ⟨rfl, hs, hb, ho⟩; have HBa := hid hs; have HUa := hid (Below.trans HU2.out hb); have HLa := hid (Nat.le_trans HL2.out hb.size); have HBXa := hid (ho xb _ HXN.out HBX.out (fun cs fr e => by injection e with _ h9 _; exact absurd h9 (by decide))); clear hs hb ho)
          have HLM := hid (show T.length + 1 + ((X.length + 7) + (0 + 1)) ≤ 140737488355000 by have h := HLN.out; rw [HTK.out, HPN.out, HRC.out] at h; simp [panicB, recB, HK0.out] at h ⊢; omega)
          have ad : ∀ w, Sem.run Try.prog (Op.stringOp .add ⟨#[112, 97, 110, 105, 99, 58, 32]⟩ S) w = .ok (.string P) w := fun w => by rw [← hP]; exact run_string_add_sum w _ _ (by have h0 := HSS.out; have h1 := HLM.out; rw [h0]; show 7 + X.length ≤ _; omega)
          clear hP
          have z1 := blk_cell (o := 1) (v := .int .i64 p.val.k) HBXa.out rfl
          have z2 := blk_cell (o := 2) (v := .int .i64 p.val.n) HBXa.out rfl
          have z3 := blk_cell (o := 3) (v := .string p.val.s) HBXa.out rfl
          have z4 := blk_cell (o := 4) (v := .slice Av p.val.l.length cv) HBXa.out rfl
          have hlx := blk_lt HBXa.out
          go_upto_region 8 with (first | (go_at_call 36; go_must (refine (HTX.out _).mono ?_); rintro e w9 ⟨rfl, hk9⟩; have HK9 := hid hk9; have HB9 := hid (HBa.out.kp hk9); have HL9 := hid (Nat.le_trans HLa.out hk9.le); have HBX9 := hid ((hk9.block _ (blk_lt HBXa.out)).trans HBXa.out); clear hk9 z1 z2 z3 z4) | (go_at_call 35; go_must (refine (wstr_any bb bb _ P _ HB9.out (by rw [HPS.out]; (try simp only [List.length_append, List.length_cons, List.length_nil]); have := HLM.out; omega) HL9.out).mono ?_); rintro e w10 ⟨rfl, hs, hb, ho⟩; have HB10 := hid hs; have HU10 := hid hb; have HL10 := hid (Nat.le_trans HL9.out hb.size); have HBX10 := hid (ho xb _ HXN.out HBX9.out (fun cs fr e => by injection e with _ h9 _; exact absurd h9 (by decide))); clear hs hb ho))
          have z5 := blk_cell (o := 5) (v := .bool false) HBX10.out rfl
          have hly := blk_lt HBX10.out
          go_wp2_with (go_at_call 34; go_must (refine (wb_is 10 10 rfl bb bb _ _ HB10.out (by simp only [List.length_append, HPD.out, panicB, List.length_cons, List.length_nil]; have := HLM.out; omega) HL10.out).mono ?_); rintro e w12 ⟨rfl, hs, hb, ho⟩; have HB12 := hid hs; have HU12 := hid hb; clear hs hb ho)
          refine cr_round hlt ⟨?_, (Below.trans HUa.out (Below.trans (Below.mono HK9.out HLa.out) (Below.trans HU10.out HU12.out))), (Nat.le_trans HL10.out HU12.out.size)⟩
          have h := HB12.out; rw [HPD.out] at h; rw [HTK.out, HPN.out, HRC.out]; simpa [HK0.out, recB, List.append_assoc] using h
    · have i1 : ¬ (k : Int) < (l.length : Int) := by omega
      obtain rfl : k = l.length := by omega
      have HST := hid (show IsB wr bb bb (crashM l) by have h := hcr.b; rw [List.take_length] at h; exact h)
      clear hcr hk hlt
      go_wp2_with (go_at_call 37; go_must (refine (bstr_any bb bb _ _ HST.out HCR.out.le).mono ?_); rintro e w9 ⟨rfl, hb9⟩)
      go_ret
      refine ⟨?_, Below.trans HKW.out (by have h := HBB.out; rw [h]; exact hb9)⟩
      rfl
end Go.Proofs.Ytiicdknmoakocaa
