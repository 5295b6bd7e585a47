/-
  The law SqueezeMemory answers true for every code. No condition.
-/
import Derived.SizedLaws
import Derived.Deep.CondSized
import Derived.Test.YtgonekmmbeedeaaRows
import Derived.Test.YtgonekmmbeedeaaStayC
import Derived.Test.YtgonekmmbeedeaaSqz
import Derived.Test.YtgonekmmbeedeaaScb
import Derived.Test.YtgonekmmbeedeaaCodeT
namespace Go.Proofs.Ytgonekmmbeedeaa.squeezeMemory
open Go.ChangeShapes Go.WideShapes Go.ChangeAt Go.RowKit
open Go.ChangeMaps (open_string shut_string)
set_option linter.unusedVariables false
set_option linter.unusedSimpArgs false

theorem own : ownKnob Try.prog.godebug = none := by kernel_rfl
theorem laidOut : laidOutB Try.prog = true := by kernel_rfl


open Sq in
theorem sq_least : (sqM leastM).funcs.length = 1 := by unfold sqM leastM; rfl
theorem OCode.form {w : World} {base : Nat} {v : Value} {c : CodeM} (h : OCode w base v c) : ∃ Af cf At ct, v = .agg #[.slice Af c.funcs.length cf, .slice At c.texts.length ct] := by
  obtain ⟨vf, vt, rfl, ⟨xs, h1, _⟩, ⟨ys, h2, _⟩, _⟩ := h
  obtain ⟨Af, cf, rfl⟩ := own_form h1
  obtain ⟨At, ct, rfl⟩ := own_form h2
  exact ⟨Af, cf, At, ct, rfl⟩
theorem sq_bounds {w : World} {base : Nat} {v : Value} {c : CodeM} (h : OCode w base v c) : RdCode w v c := h.rd
set_option maxRecDepth 20000 in
set_option maxHeartbeats 16000000 in
theorem walk (v0 : Value) (a0 : CodeM) (w : World) (w0 : RdCode w v0 a0) :
    Calls Try.prog 4 #[v0] w fun e w' => e = .returned (.bool true) ∧ Kp w w' := by
  have hw0 := w0
  obtain ⟨lf, lt, rfl, hf, hfl, ht, htl⟩ := w0
  obtain ⟨Af, cf, rfl, _⟩ := hf.form
  obtain ⟨At, ct, rfl, _⟩ := ht.form
  have HRC := hid hw0
  have HKA := hid ((Kp.refl w).alloc (.cells #[.slice Af a0.funcs.length cf, .slice At a0.texts.length ct] 25))
  have HB0 := hid (blk_new w (.cells #[.slice Af a0.funcs.length cf, .slice At a0.texts.length ct] 25))
  clear hw0 hf hfl ht htl
  go_enter Try.func4, Try.ntmps4
  go_upto_region 1 with fail
  generalize (w.alloc (.cells #[.slice Af a0.funcs.length cf, .slice At a0.texts.length ct] 25)) = W0 at HKA HB0 ⊢
  generalize w.heap.size = n0 at HB0 ⊢
  have z0 := blk_cell (o := 0) (v := .slice Af a0.funcs.length cf) HB0.out rfl
  have z1 := blk_cell (o := 1) (v := .slice At a0.texts.length ct) HB0.out rfl
  have zl := blk_lt HB0.out
  have hrm := roomyCode_any W0 _ a0 (HRC.out.kp HKA.out)
  go_upto_region 2 with (go_at_call 9; refine hrm.mono ?_; rintro e w1 ⟨⟨v1, rfl, hr1⟩, hk1⟩; obtain ⟨Df, df, gt, kt, rfl⟩ := hr1.form; have HR1 := hid hr1; have HK1 := hid (HKA.out.trans hk1); have HB01 := hid ((hk1.block _ (blk_lt HB0.out)).trans HB0.out); clear hr1 hk1)
  have HRD := hid (HR1.out.kp ((Kp.refl w1).alloc (.cells #[.slice Df a0.funcs.length df, .slice (some ⟨gt, 0, none⟩) a0.texts.length kt] 25)))
  have HBD := hid (blk_new w1 (.cells #[.slice Df a0.funcs.length df, .slice (some ⟨gt, 0, none⟩) a0.texts.length kt] 25))
  have HB1 := hid (blk_old HB01.out (.cells #[.slice Df a0.funcs.length df, .slice (some ⟨gt, 0, none⟩) a0.texts.length kt] 25))
  have HKW := hid (HK1.out.alloc (.cells #[.slice Df a0.funcs.length df, .slice (some ⟨gt, 0, none⟩) a0.texts.length kt] 25))
  have HK1D := hid ((Kp.refl w1).alloc (.cells #[.slice Df a0.funcs.length df, .slice (some ⟨gt, 0, none⟩) a0.texts.length kt] 25))
  generalize (w1.alloc (.cells #[.slice Df a0.funcs.length df, .slice (some ⟨gt, 0, none⟩) a0.texts.length kt] 25)) = W1 at HRD HBD HB1 HKW HK1D ⊢
  generalize w1.heap.size = nd at HBD ⊢
  clear z0 z1 zl hrm HB01 HB0
  have z0 := blk_cell (o := 0) (v := .slice Df a0.funcs.length df) HBD.out rfl
  have z1 := blk_cell (o := 1) (v := .slice (some ⟨gt, 0, none⟩) a0.texts.length kt) HBD.out rfl
  have zl := blk_lt HBD.out
  by_cases hq : (soundM a0).1 = 0
  · have hs1 := Sq.squeeze_ok W1 _ a0 HRD.out.rd hq
    go_upto_region 3 with (go_at_call 14; refine hs1.mono ?_; rintro e w2 ⟨⟨v2, rfl, ho2⟩, hk2⟩; obtain ⟨Af2, cf2, At2, ct2, rfl⟩ := OCode.form ho2; have HO2 := hid ho2; have HK2 := hid hk2; clear ho2 hk2)
    have HB2 := hid (blk_new w2 (.cells #[.slice Af2 (Sq.sqM a0).funcs.length cf2, .slice At2 (Sq.sqM a0).texts.length ct2] 25))
    have HKA2 := hid ((Kp.refl w2).alloc (.cells #[.slice Af2 (Sq.sqM a0).funcs.length cf2, .slice At2 (Sq.sqM a0).texts.length ct2] 25))
    have HN2 := hid (show w2.heap.size ≤ w2.heap.size from Nat.le_refl _)
    generalize (w2.alloc (.cells #[.slice Af2 (Sq.sqM a0).funcs.length cf2, .slice At2 (Sq.sqM a0).texts.length ct2] 25)) = W2 at HB2 HKA2 ⊢
    obtain ⟨n2, hn2⟩ : ∃ n, w2.heap.size = n := ⟨_, rfl⟩
    rw [hn2] at HB2 ⊢
    have HK12 := hid (HK2.out.trans HKA2.out)
    have HBD2 := hid ((HK12.out.block _ (blk_lt HBD.out)).trans HBD.out)
    clear z0 z1 zl hs1
    have z0 := blk_cell (o := 0) (v := .slice Df a0.funcs.length df) HBD2.out rfl
    have z1 := blk_cell (o := 1) (v := .slice (some ⟨gt, 0, none⟩) a0.texts.length kt) HBD2.out rfl
    have zl := blk_lt HBD2.out
    have hs2 := Sq.squeeze_ok W2 _ a0 (HRD.out.kp HK12.out).rd hq
    go_upto_region 4 with (go_at_call 14; refine hs2.mono ?_; rintro e w3 ⟨⟨v3, rfl, ho3⟩, hk3⟩; obtain ⟨Af3, cf3, At3, ct3, rfl⟩ := OCode.form ho3; have HO3 := hid ho3; have HK3 := hid hk3; clear ho3 hk3)
    have HB3 := hid (blk_new w3 (.cells #[.slice Af3 (Sq.sqM a0).funcs.length cf3, .slice At3 (Sq.sqM a0).texts.length ct3] 25))
    have HKA3 := hid ((Kp.refl w3).alloc (.cells #[.slice Af3 (Sq.sqM a0).funcs.length cf3, .slice At3 (Sq.sqM a0).texts.length ct3] 25))
    generalize (w3.alloc (.cells #[.slice Af3 (Sq.sqM a0).funcs.length cf3, .slice At3 (Sq.sqM a0).texts.length ct3] 25)) = W3 at HB3 HKA3 ⊢
    obtain ⟨n3, hn3⟩ : ∃ n, w3.heap.size = n := ⟨_, rfl⟩
    rw [hn3] at HB3 ⊢
    have HK23 := hid (HK3.out.trans HKA3.out)
    clear z0 z1 zl hs2
    have hle := least_any W3
    have hs4 := fun w4 v4 (h : OCode w4 W3.heap.size v4 leastM) => Sq.squeeze_ok w4 v4 leastM h.rd (by rw [least_sound])
    go_upto_region 5 with first | (go_at_call 15; refine hle.mono ?_; rintro e w4 ⟨⟨v4, rfl, ho4⟩, hk4⟩; have HO4 := hid ho4; have HK4 := hid hk4; clear ho4 hk4) | (go_at_call 14; refine (hs4 _ _ HO4.out).mono ?_; rintro e w5 ⟨⟨v5, rfl, ho5⟩, hk5⟩; obtain ⟨Af5, cf5, At5, ct5, rfl⟩ := OCode.form ho5; have HK5 := hid (HK4.out.trans hk5); clear ho5 hk5)
    have HB5 := hid (blk_new w5 (.cells #[.slice Af5 (Sq.sqM leastM).funcs.length cf5, .slice At5 (Sq.sqM leastM).texts.length ct5] 25))
    have HK5A := hid (HK5.out.alloc (.cells #[.slice Af5 (Sq.sqM leastM).funcs.length cf5, .slice At5 (Sq.sqM leastM).texts.length ct5] 25))
    generalize (w5.alloc (.cells #[.slice Af5 (Sq.sqM leastM).funcs.length cf5, .slice At5 (Sq.sqM leastM).texts.length ct5] 25)) = W5 at HB5 HK5A ⊢
    generalize w5.heap.size = n5 at HB5 ⊢
    have t5 : (((Sq.sqM leastM).funcs.length : Int) == 1) = true := by rw [sq_least]; rfl
    have t5' : (((Sq.sqM leastM).funcs.length : Int) != 1) = false := by rw [sq_least]; rfl
    have HK15 := hid (HK12.out.trans (HK23.out.trans HK5A.out))
    have HBD5 := hid ((HK15.out.block _ (blk_lt HBD.out)).trans HBD.out)
    have HB05 := hid ((HK15.out.block _ (blk_lt HB1.out)).trans HB1.out)
    clear hle hs4
    have z0 := blk_cell (o := 0) (v := .slice Df a0.funcs.length df) HBD5.out rfl
    have z1 := blk_cell (o := 1) (v := .slice (some ⟨gt, 0, none⟩) a0.texts.length kt) HBD5.out rfl
    have zl := blk_lt HBD5.out
    have x0 := blk_cell (o := 0) (v := .slice Af a0.funcs.length cf) HB05.out rfl
    have x1 := blk_cell (o := 1) (v := .slice At a0.texts.length ct) HB05.out rfl
    have xl := blk_lt HB05.out
    have y0 := blk_cell (o := 0) (v := .slice Af5 (Sq.sqM leastM).funcs.length cf5) HB5.out rfl
    have yl := blk_lt HB5.out
    have hst := stayedCode_any W5 _ _ _ a0 (HRD.out.kp HK15.out) (HRC.out.kp (HKW.out.trans HK15.out))
    go_upto_region 9 with (go_at_call 11; refine hst.mono ?_; rintro e w6 ⟨rfl, hk6⟩; have HK6 := hid hk6; clear hk6)
    have HB36 := hid (((HK5A.out.trans HK6.out).block _ (blk_lt HB3.out)).trans HB3.out)
    have HK36 := hid (HK5A.out.trans HK6.out)
    clear z0 z1 zl x0 x1 xl y0 yl hst
    have z0 := blk_cell (o := 0) (v := .slice Af3 (Sq.sqM a0).funcs.length cf3) HB36.out rfl
    have z1 := blk_cell (o := 1) (v := .slice At3 (Sq.sqM a0).texts.length ct3) HB36.out rfl
    have zl := blk_lt HB36.out
    have hcp := copied_any w6 _ (Sq.sqM a0) (OCode.kp (OCode.kp HO3.out HKA3.out) HK36.out).rd
    go_upto_region 10 with (go_at_call 16; refine hcp.mono ?_; rintro e w7 ⟨⟨v7, rfl, ho7⟩, hk7⟩; obtain ⟨Af7, cf7, At7, ct7, rfl⟩ := OCode.form ho7; have HO7 := hid ho7; have HK7 := hid hk7; clear ho7 hk7)
    have HB7 := hid (blk_new w7 (.cells #[.slice Af7 (Sq.sqM a0).funcs.length cf7, .slice At7 (Sq.sqM a0).texts.length ct7] 25))
    have HKA7 := hid ((Kp.refl w7).alloc (.cells #[.slice Af7 (Sq.sqM a0).funcs.length cf7, .slice At7 (Sq.sqM a0).texts.length ct7] 25))
    have HS7 := hid (show w7.heap.size ≤ w7.heap.size from Nat.le_refl _)
    generalize (w7.alloc (.cells #[.slice Af7 (Sq.sqM a0).funcs.length cf7, .slice At7 (Sq.sqM a0).texts.length ct7] 25)) = W7 at HB7 HKA7 ⊢
    obtain ⟨n7, hn7⟩ : ∃ n, w7.heap.size = n := ⟨_, rfl⟩
    rw [hn7] at HB7 ⊢
    have HK37 := hid (HK36.out.trans (HK7.out.trans HKA7.out))
    have HK27 := hid (HK23.out.trans HK37.out)
    have HB27 := hid ((HK27.out.block _ (blk_lt HB2.out)).trans HB2.out)
    have hsc := scribbleCode_any w2 W7 W1.heap.size _ (Sq.sqM a0) HO2.out (HKA2.out.trans HK27.out) HK2.out.le
    clear z0 z1 zl hcp
    have z0 := blk_cell (o := 0) (v := .slice Af2 (Sq.sqM a0).funcs.length cf2) HB27.out rfl
    have z1 := blk_cell (o := 1) (v := .slice At2 (Sq.sqM a0).texts.length ct2) HB27.out rfl
    have zl := blk_lt HB27.out
    go_upto_region 11 with (go_at_call 17; refine hsc.mono ?_; rintro e w8 ⟨rfl, hs8⟩; have HS8 := hid hs8; clear hs8)
    clear z0 z1 zl hsc
    have HK17 := hid (HK12.out.trans HK27.out)
    have HK18 := hid (show Kp W1 w8 from Below.trans HK17.out HS8.out.below)
    have HBD8 := hid ((HK18.out.block _ (blk_lt HBD.out)).trans HBD.out)
    have HB08 := hid ((HK18.out.block _ (blk_lt HB1.out)).trans HB1.out)
    have hlt3 : n3 < W7.heap.size := Nat.lt_of_lt_of_le (blk_lt HB3.out) HK37.out.le
    have hge3 : w2.heap.size ≤ n3 := by rw [← hn3]; exact Nat.le_trans HKA2.out.le HK3.out.le
    have HB38 := hid ((HS8.out.high n3 hge3 hlt3).trans ((HK37.out.block _ (blk_lt HB3.out)).trans HB3.out))
    have hge7 : w2.heap.size ≤ n7 := by rw [← hn7]; have h1 := HKA2.out.le; have h2 := HK23.out.le; have h3 := HK36.out.le; have h4 := HK7.out.le; omega
    have HB78 := hid ((HS8.out.high n7 hge7 (blk_lt HB7.out)).trans HB7.out)
    have HO3' := hid (OCode.high (OCode.kp (OCode.kp HO3.out HKA3.out) HK37.out) HS8.out HKA2.out.le)
    have HO7' := hid (OCode.high (OCode.kp HO7.out HKA7.out) HS8.out (by have h1 := HKA2.out.le; have h2 := HK23.out.le; have h3 := HK36.out.le; omega))
    clear hlt3 hge3 hge7
    have z0 := blk_cell (o := 0) (v := .slice Df a0.funcs.length df) HBD8.out rfl
    have z1 := blk_cell (o := 1) (v := .slice (some ⟨gt, 0, none⟩) a0.texts.length kt) HBD8.out rfl
    have zl := blk_lt HBD8.out
    have x0 := blk_cell (o := 0) (v := .slice Af a0.funcs.length cf) HB08.out rfl
    have x1 := blk_cell (o := 1) (v := .slice At a0.texts.length ct) HB08.out rfl
    have xl := blk_lt HB08.out
    have hst := stayedCode_any w8 _ _ _ a0 (HRD.out.kp HK18.out) (HRC.out.kp (HKW.out.trans HK18.out))
    go_wp2_with first | (go_at_call 11; refine hst.mono ?_; rintro e w9 ⟨rfl, hk9⟩; have HB39 := hid ((hk9.block _ (blk_lt HB38.out)).trans HB38.out); have HB79 := hid ((hk9.block _ (blk_lt HB78.out)).trans HB78.out); have r0 := blk_cell (o := 0) (v := .slice Af3 (Sq.sqM a0).funcs.length cf3) HB39.out rfl; have r1 := blk_cell (o := 1) (v := .slice At3 (Sq.sqM a0).texts.length ct3) HB39.out rfl; have rl := blk_lt HB39.out; have s0 := blk_cell (o := 0) (v := .slice Af7 (Sq.sqM a0).funcs.length cf7) HB79.out rfl; have s1 := blk_cell (o := 1) (v := .slice At7 (Sq.sqM a0).texts.length ct7) HB79.out rfl; have sl := blk_lt HB79.out; have hse := same_eq w9 _ _ (Sq.sqM a0) (OCode.kp HO3'.out hk9).rd (OCode.kp HO7'.out hk9).rd; have HK9 := hid hk9; clear hk9) | (go_at_call 13; refine hse.mono ?_; rintro e wa ⟨rfl, hka⟩; have HKa := hid hka; clear hka)
    go_ret
    exact ⟨rfl, ((HKW.out.trans HK18.out).trans HK9.out).trans HKa.out⟩
  · obtain ⟨s0, s1, s2, hs⟩ : ∃ s0 s1 s2, soundM a0 = (s0, s1, s2) := ⟨_, _, _, rfl⟩
    have hs0 : s0 ≠ 0 := fun e => hq (by rw [hs]; exact e)
    have hs1 := Sq.squeeze_err W1 _ a0 HRD.out.rd s0 s1 s2 hs hs0
    have t0 : (s0 != 0) = true := by simp [hs0]
    have t1 : (s0 == 0) = false := by simp [hs0]
    go_upto_region 3 with (go_at_call 14; refine hs1.mono ?_; rintro e w2 ⟨rfl, hk2⟩; have HK2 := hid hk2; clear hk2)
    have HK12 := hid (HK2.out.alloc (.cells #[.slice none 0 0, .slice none 0 0] 25))
    generalize (w2.alloc (.cells #[.slice none 0 0, .slice none 0 0] 25)) = W2 at HK12 ⊢
    generalize w2.heap.size = n2
    have HBD2 := hid ((HK12.out.block _ (blk_lt HBD.out)).trans HBD.out)
    clear z0 z1 zl hs1
    have z0 := blk_cell (o := 0) (v := .slice Df a0.funcs.length df) HBD2.out rfl
    have z1 := blk_cell (o := 1) (v := .slice (some ⟨gt, 0, none⟩) a0.texts.length kt) HBD2.out rfl
    have zl := blk_lt HBD2.out
    have hs2 := Sq.squeeze_err W2 _ a0 (HRD.out.kp HK12.out).rd s0 s1 s2 hs hs0
    go_upto_region 4 with (go_at_call 14; refine hs2.mono ?_; rintro e w3 ⟨rfl, hk3⟩; have HK3 := hid hk3; clear hk3)
    have HK13 := hid (HK12.out.trans (HK3.out.alloc (.cells #[.slice none 0 0, .slice none 0 0] 25)))
    generalize (w3.alloc (.cells #[.slice none 0 0, .slice none 0 0] 25)) = W3 at HK13 ⊢
    generalize w3.heap.size = n3
    clear z0 z1 zl hs2
    have hle := least_any W3
    have hs4 := fun w4 v4 (h : OCode w4 W3.heap.size v4 leastM) => Sq.squeeze_ok w4 v4 leastM h.rd (by rw [least_sound])
    go_upto_region 5 with first | (go_at_call 15; refine hle.mono ?_; rintro e w4 ⟨⟨v4, rfl, ho4⟩, hk4⟩; have HO4 := hid ho4; have HK4 := hid hk4; clear ho4 hk4) | (go_at_call 14; refine (hs4 _ _ HO4.out).mono ?_; rintro e w5 ⟨⟨v5, rfl, ho5⟩, hk5⟩; obtain ⟨Af5, cf5, At5, ct5, rfl⟩ := OCode.form ho5; have HK5 := hid (HK4.out.trans hk5); clear ho5 hk5)
    have HB5 := hid (blk_new w5 (.cells #[.slice Af5 (Sq.sqM leastM).funcs.length cf5, .slice At5 (Sq.sqM leastM).texts.length ct5] 25))
    have HK5A := hid (HK5.out.alloc (.cells #[.slice Af5 (Sq.sqM leastM).funcs.length cf5, .slice At5 (Sq.sqM leastM).texts.length ct5] 25))
    generalize (w5.alloc (.cells #[.slice Af5 (Sq.sqM leastM).funcs.length cf5, .slice At5 (Sq.sqM leastM).texts.length ct5] 25)) = W5 at HB5 HK5A ⊢
    generalize w5.heap.size = n5 at HB5 ⊢
    have t5 : (((Sq.sqM leastM).funcs.length : Int) == 1) = true := by rw [sq_least]; rfl
    have t5' : (((Sq.sqM leastM).funcs.length : Int) != 1) = false := by rw [sq_least]; rfl
    have HK15 := hid (HK13.out.trans HK5A.out)
    have HBD5 := hid ((HK15.out.block _ (blk_lt HBD.out)).trans HBD.out)
    have HB05 := hid ((HK15.out.block _ (blk_lt HB1.out)).trans HB1.out)
    clear hle hs4
    have z0 := blk_cell (o := 0) (v := .slice Df a0.funcs.length df) HBD5.out rfl
    have z1 := blk_cell (o := 1) (v := .slice (some ⟨gt, 0, none⟩) a0.texts.length kt) HBD5.out rfl
    have zl := blk_lt HBD5.out
    have x0 := blk_cell (o := 0) (v := .slice Af a0.funcs.length cf) HB05.out rfl
    have x1 := blk_cell (o := 1) (v := .slice At a0.texts.length ct) HB05.out rfl
    have xl := blk_lt HB05.out
    have y0 := blk_cell (o := 0) (v := .slice Af5 (Sq.sqM leastM).funcs.length cf5) HB5.out rfl
    have yl := blk_lt HB5.out
    have hst := stayedCode_any W5 _ _ _ a0 (HRD.out.kp HK15.out) (HRC.out.kp (HKW.out.trans HK15.out))
    go_wp2_with (go_at_call 11; refine hst.mono ?_; rintro e w6 ⟨rfl, hk6⟩; have HK6 := hid hk6; clear hk6)
    go_ret
    exact ⟨rfl, (HKW.out.trans HK15.out).trans HK6.out⟩
/-! ### The row's step (the guide's frame, written by program) -/
set_option maxRecDepth 100000 in
theorem lifted (os : Os) (started : os.Started) (H : Type) (enc : TypeId × Value → H) :
    ReturnsInHanded {} Try.checked os 4 .any (Rows.squeezeMemorySpec.pre6 enc Try.prog Try.f4 Rows.squeezeMemoryRow.domain false) (Rows.squeezeMemorySpec.post enc Try.prog Try.f4 false true false false) := by
  refine returnsInHanded_of_change_sized (C := Try.checked) own started (by kernel_rfl) Try.func4
    (ChangeSpec.witness6 (enc := enc) (C := Try.checked) false ⟨#[], #[.agg #[.slice none 0 0, .slice none 0 0]], []⟩ 8 (by kernel_rfl) (by kernel_rfl) (by kernel_rfl) (by kernel_rfl)) ?_
  intro W base args ds gs before hval0 hW _ hsz0 _
  have hsz : (DataW.weightsEach Try.prog (Try.f4.params.toList ++ Rows.squeezeMemorySpec.plain.varTypes Try.prog) (ds ++ gs)).all (· ≤ reachBytes) = true := hsz0
  clear hsz0
  have hval : ∀ (j : Nat) t v, Try.f4.params[j]? = some t → args[j]? = some v → Value.okWide Try.prog W .any base t v := hval0
  have hW' := hW
  obtain ⟨p, q, hA0, hV, rfl, hfz, hnd⟩ := hW
  have hA : DataW.TrodAll enc Try.prog W 0 (fun _ => true) true Try.f4.params.toList args.toList ds p := hA0
  rw [Try.params4] at hA hval hsz
  obtain ⟨v0, vs0, d0, ds0, p0, q0, hargs, rfl, rfl, h0, r0⟩ := trodAll_cons hA
  obtain ⟨rfl, rfl, rfl⟩ := trodAll_nil r0
  obtain rfl : args = #[v0] := by cases args; simp_all
  obtain ⟨rfl, rfl⟩ := trodVars_none hV
  have k0 := h0
  have lt0 : ∀ x ∈ p0, x.block < W.heap.size := by obtain ⟨m, hm⟩ := k0; exact DataW.trod_lt m _ _ _ hm
  have hz0 : ∀ n ∈ DataW.weights Try.prog 25 d0, n ≤ reachBytes := fun n hn => by
    have := List.all_eq_true.1 hsz _ (DataW.weights_mem_each (j := 0) rfl rfl n hn)
    simpa using this
  obtain ⟨a0, w0⟩ := open_code (hval 0 25 v0 rfl rfl) h0 hz0
  clear hA0 hval0
  simp only [List.append_nil] at hW'
  refine (walk v0 a0 W w0).mono fun e W' ⟨he, bel⟩ => ?_
  subst he
  exact ⟨_, rfl, _, _, _, [], _, [], hW', trodAll_mk1 (shut_bool Try.underlying4 _), (trodAll_cons_mk (Below.trod laidOut (by kernel_rfl) (of_decide_eq_true (by kernel_rfl)) k0 bel lt0) trodAll_mk0), rfl, Below.frame bel _, fun h => by cases h⟩

theorem over : Rows.squeezeMemoryRow.holds Try.pinned (OpenSpec.ofChange Rows.squeezeMemorySpec) :=
  OpenClaim.holds_of_wide 4 Try.f4 rfl rfl rfl rfl rfl rfl rfl ⟨rfl, rfl, rfl, rfl, rfl⟩ rfl rfl rfl rfl rfl (by kernel_rfl) Try.func4 (by kernel_rfl)
    (of_decide_eq_true (by kernel_rfl)) (by unfold Func.isWrapper; rw [if_neg (of_decide_eq_false (by kernel_rfl))]; exact ⟨rfl, rfl⟩)
    (fun os started H enc _ => lifted os started H enc)

/-- THE STATEMENT. -/
theorem proved : Rows.SqueezeMemorySaid := over
#print axioms proved

end Go.Proofs.Ytgonekmmbeedeaa.squeezeMemory
