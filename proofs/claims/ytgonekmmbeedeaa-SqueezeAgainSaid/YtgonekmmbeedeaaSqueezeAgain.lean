/-
  The law SqueezeAgain answers true for every code. No condition.
-/
import Derived.SizedLaws
import Derived.Deep.CondSized
import Derived.Test.YtgonekmmbeedeaaRows
import Derived.Test.YtgonekmmbeedeaaCodeT
import Derived.Test.YtgonekmmbeedeaaGua
namespace Go.Proofs.Ytgonekmmbeedeaa.squeezeAgain
open Go.ChangeShapes Go.WideShapes Go.ChangeAt Go.RowKit
open Go.ChangeMaps (open_string shut_string)
set_option linter.unusedVariables false
set_option linter.unusedSimpArgs false

theorem own : ownKnob Try.prog.godebug = none := by kernel_rfl
theorem laidOut : laidOutB Try.prog = true := by kernel_rfl


open Sq
theorem sq_least : (sqM leastM).funcs.length = 1 := by unfold sqM leastM; rfl
theorem OCode.form {w : World} {base : Nat} {v : Value} {c : CodeM} (h : OCode w base v c) : ∃ Af cf At ct, v = .agg #[.slice Af c.funcs.length cf, .slice At c.texts.length ct] := by
  obtain ⟨vf, vt, rfl, ⟨xs, h1, _⟩, ⟨ys, h2, _⟩, _⟩ := h
  obtain ⟨Af, cf, rfl⟩ := own_form h1
  obtain ⟨At, ct, rfl⟩ := own_form h2
  exact ⟨Af, cf, At, ct, rfl⟩
theorem ne_fix (a b c : Int) (w : World) : Sem.run Try.prog (binOp .neq 41 (.agg #[.int .i64 a, .int .i64 b, .int .i64 c]) (.agg #[.int .i64 a, .int .i64 b, .int .i64 c])) w = .ok (.bool false) w := by simp [go_sem]
theorem guard_yes (w : World) (v : Value) (c : CodeM) (h : RdCode w v c) (hq : (soundM c).1 = 0) (hg : GuardC c) : Calls Try.prog 19 #[v] w fun e w' => e = .returned (.agg #[.int .i64 0, .int .i64 0, .int .i64 0]) ∧ Kp w w' := by
  refine (guard_any w v c h).mono ?_
  rintro e w' ⟨⟨s, rfl, hs⟩, hk⟩
  rcases hs with ⟨h, _⟩ | ⟨_, _, rfl⟩ | ⟨_, hn, _⟩
  · exact absurd hq h
  · exact ⟨rfl, hk⟩
  · exact absurd hg hn
theorem guard_no (w : World) (v : Value) (c : CodeM) (h : RdCode w v c) (hq : (soundM c).1 = 0) (hg : ¬ GuardC c) : Calls Try.prog 19 #[v] w fun e w' => (∃ a b : Int, e = .returned (.agg #[.int .i64 19, .int .i64 a, .int .i64 b])) ∧ Kp w w' := by
  refine (guard_any w v c h).mono ?_
  rintro e w' ⟨⟨s, rfl, hs⟩, hk⟩
  rcases hs with ⟨h, _⟩ | ⟨_, hn, _⟩ | ⟨_, _, a, b, rfl⟩
  · exact absurd hq h
  · exact absurd hn hg
  · exact ⟨⟨a, b, rfl⟩, hk⟩
@[go_sem] theorem field_fix0 (x0 x1 x2 : Value) (w : World) : Sem.run Try.prog (Instr.field 41 (.agg #[x0, x1, x2]) 0) w = .ok x0 w := by kernel_rfl
set_option maxRecDepth 20000 in
set_option maxHeartbeats 16000000 in
theorem walk (v0 : Value) (a0 : CodeM) (w : World) (w0 : RdCode w v0 a0) :
    Calls Try.prog 5 #[v0] w fun e w' => e = .returned (.bool true) ∧ Kp w w' := by
  have hw0 := w0
  obtain ⟨lf, lt, rfl, hf, hfl, ht, htl⟩ := w0
  obtain ⟨Af, cf, rfl, _⟩ := hf.form
  obtain ⟨At, ct, rfl, _⟩ := ht.form
  have HRC := hid hw0
  have HF := hid hf
  have HFL := hid hfl
  have HKA := hid ((Kp.refl w).alloc (.cells #[.slice Af a0.funcs.length cf, .slice At a0.texts.length ct] 25))
  have HB0 := hid (blk_new w (.cells #[.slice Af a0.funcs.length cf, .slice At a0.texts.length ct] 25))
  clear hw0 hf hfl ht htl
  go_enter Try.func5, Try.ntmps5
  go_upto_region 1 with fail
  generalize (w.alloc (.cells #[.slice Af a0.funcs.length cf, .slice At a0.texts.length ct] 25)) = W0 at HKA HB0 ⊢
  generalize w.heap.size = n0 at HB0 ⊢
  have z0 := blk_cell (o := 0) (v := .slice Af a0.funcs.length cf) HB0.out rfl
  have z1 := blk_cell (o := 1) (v := .slice At a0.texts.length ct) HB0.out rfl
  have zl := blk_lt HB0.out
  have hcp := copied_any W0 _ a0 (HRC.out.kp HKA.out)
  by_cases hq : (soundM a0).1 = 0
  · have hs1 := fun w1 v1 (h : OCode w1 W0.heap.size v1 a0) => squeeze_ok w1 v1 a0 h.rd hq
    go_upto_region 2 with first | (go_at_call 16; refine hcp.mono ?_; rintro e w1 ⟨⟨v1, rfl, ho1⟩, hk1⟩; have HO1 := hid ho1; have HK1 := hid hk1; clear ho1 hk1) | (go_at_call 14; refine (hs1 _ _ HO1.out).mono ?_; rintro e w2 ⟨⟨v2, rfl, ho2⟩, hk2⟩; obtain ⟨Af2, cf2, At2, ct2, rfl⟩ := OCode.form ho2; have HO2 := hid ho2; have HK2 := hid (HK1.out.trans hk2); clear ho2 hk2)
    have HB2 := hid (blk_new w2 (.cells #[.slice Af2 (sqM a0).funcs.length cf2, .slice At2 (sqM a0).texts.length ct2] 25))
    have HKA2 := hid ((Kp.refl w2).alloc (.cells #[.slice Af2 (sqM a0).funcs.length cf2, .slice At2 (sqM a0).texts.length ct2] 25))
    have HO2' := hid (OCode.kp HO2.out HKA2.out)
    generalize (w2.alloc (.cells #[.slice Af2 (sqM a0).funcs.length cf2, .slice At2 (sqM a0).texts.length ct2] 25)) = W2 at HB2 HKA2 HO2' ⊢
    generalize w2.heap.size = n2 at HB2 ⊢
    have HK02 := hid (HK2.out.trans HKA2.out)
    clear z0 z1 zl hs1 hcp
    have hle := least_any W2
    have hs4 := fun w4 v4 (h : OCode w4 W2.heap.size v4 leastM) => squeeze_ok w4 v4 leastM h.rd (by rw [least_sound])
    go_upto_region 3 with first | (go_at_call 15; refine hle.mono ?_; rintro e w4 ⟨⟨v4, rfl, ho4⟩, hk4⟩; have HO4 := hid ho4; have HK4 := hid hk4; clear ho4 hk4) | (go_at_call 14; refine (hs4 _ _ HO4.out).mono ?_; rintro e w5 ⟨⟨v5, rfl, ho5⟩, hk5⟩; obtain ⟨Af5, cf5, At5, ct5, rfl⟩ := OCode.form ho5; have HK5 := hid (HK4.out.trans hk5); clear ho5 hk5)
    have HB5 := hid (blk_new w5 (.cells #[.slice Af5 (sqM leastM).funcs.length cf5, .slice At5 (sqM leastM).texts.length ct5] 25))
    have HK5A := hid (HK5.out.alloc (.cells #[.slice Af5 (sqM leastM).funcs.length cf5, .slice At5 (sqM leastM).texts.length ct5] 25))
    generalize (w5.alloc (.cells #[.slice Af5 (sqM leastM).funcs.length cf5, .slice At5 (sqM leastM).texts.length ct5] 25)) = W5 at HB5 HK5A ⊢
    generalize w5.heap.size = n5 at HB5 ⊢
    have t5 : (((sqM leastM).funcs.length : Int) == 1) = true := by rw [sq_least]; rfl
    have t5' : (((sqM leastM).funcs.length : Int) != 1) = false := by rw [sq_least]; rfl
    have HB25 := hid ((HK5A.out.block _ (blk_lt HB2.out)).trans HB2.out)
    have y0 := blk_cell (o := 0) (v := .slice Af5 (sqM leastM).funcs.length cf5) HB5.out rfl
    have yl := blk_lt HB5.out
    have z0 := blk_cell (o := 0) (v := .slice Af2 (sqM a0).funcs.length cf2) HB25.out rfl
    have z1 := blk_cell (o := 1) (v := .slice At2 (sqM a0).texts.length ct2) HB25.out rfl
    have zl := blk_lt HB25.out
    clear hle hs4
    have hcp := copied_any W5 _ (sqM a0) (OCode.kp HO2'.out HK5A.out).rd
    have hs1 := fun w1 v1 (h : OCode w1 W5.heap.size v1 (sqM a0)) => squeeze_ok w1 v1 (sqM a0) h.rd (by rw [sq_sound hq])
    rw [sq_sq hq] at hs1
    go_upto_region 6 with first | (go_at_call 16; refine hcp.mono ?_; rintro e w6 ⟨⟨v6, rfl, ho6⟩, hk6⟩; have HO6 := hid ho6; have HK6 := hid hk6; clear ho6 hk6) | (go_at_call 14; refine (hs1 _ _ HO6.out).mono ?_; rintro e w7 ⟨⟨v7, rfl, ho7⟩, hk7⟩; obtain ⟨Af7, cf7, At7, ct7, rfl⟩ := OCode.form ho7; have HO7 := hid ho7; have HK7 := hid (HK6.out.trans hk7); clear ho7 hk7)
    have HB7 := hid (blk_new w7 (.cells #[.slice Af7 (sqM a0).funcs.length cf7, .slice At7 (sqM a0).texts.length ct7] 25))
    have HKA7 := hid ((Kp.refl w7).alloc (.cells #[.slice Af7 (sqM a0).funcs.length cf7, .slice At7 (sqM a0).texts.length ct7] 25))
    have HO7' := hid (OCode.kp HO7.out HKA7.out)
    generalize (w7.alloc (.cells #[.slice Af7 (sqM a0).funcs.length cf7, .slice At7 (sqM a0).texts.length ct7] 25)) = W7 at HB7 HKA7 HO7' ⊢
    generalize w7.heap.size = n7 at HB7 ⊢
    have HK27 := hid (HK5A.out.trans (HK7.out.trans HKA7.out))
    have HK07 := hid (HK02.out.trans HK27.out)
    have HB27 := hid ((HK27.out.block _ (blk_lt HB2.out)).trans HB2.out)
    have HB07 := hid ((HK07.out.block _ (blk_lt HB0.out)).trans HB0.out)
    clear y0 yl z0 z1 zl hcp hs1 t5 t5'
    have z0 := blk_cell (o := 0) (v := .slice Af2 (sqM a0).funcs.length cf2) HB27.out rfl
    have z1 := blk_cell (o := 1) (v := .slice At2 (sqM a0).texts.length ct2) HB27.out rfl
    have zl := blk_lt HB27.out
    have y0 := blk_cell (o := 0) (v := .slice Af7 (sqM a0).funcs.length cf7) HB7.out rfl
    have y1 := blk_cell (o := 1) (v := .slice At7 (sqM a0).texts.length ct7) HB7.out rfl
    have yl := blk_lt HB7.out
    have hlen : (sqM a0).funcs.length = a0.funcs.length := by unfold sqM; exact List.length_map ..
    have t6 : (((sqM a0).funcs.length : Int) == (a0.funcs.length : Int)) = true := by rw [hlen]; simp
    have t6' : (((sqM a0).funcs.length : Int) != (a0.funcs.length : Int)) = false := by rw [hlen]; simp
    have HLEN := hid hlen
    clear hlen
    have hse := same_eq W7 _ _ (sqM a0) (OCode.kp HO2'.out HK27.out).rd HO7'.out.rd
    have hso := fun w' (hk : Kp W7 w') => sound_any w' _ (sqM a0) (OCode.kp (OCode.kp HO2'.out HK27.out) hk).rd
    rw [sq_sound hq] at hso
    unfold fixV at hso
    dsimp only at hso
    have hnf := fun w' => ne_fix 0 0 0 w'
    go_wp2_with first | (go_at_call 13; refine hse.mono ?_; rintro e w8 ⟨rfl, hk8⟩; have HK8 := hid hk8; have HB08 := hid ((hk8.block _ (blk_lt HB07.out)).trans HB07.out); have HB28 := hid ((hk8.block _ (blk_lt HB27.out)).trans HB27.out); have x0 := blk_cell (o := 0) (v := .slice Af a0.funcs.length cf) HB08.out rfl; have x1 := blk_cell (o := 1) (v := .slice At a0.texts.length ct) HB08.out rfl; have xl := blk_lt HB08.out; have u0 := blk_cell (o := 0) (v := .slice Af2 (sqM a0).funcs.length cf2) HB28.out rfl; have u1 := blk_cell (o := 1) (v := .slice At2 (sqM a0).texts.length ct2) HB28.out rfl; have ul := blk_lt HB28.out; have hsw := hso _ hk8; clear hk8) | (go_at_call 18; refine hsw.mono ?_; rintro e w9 ⟨rfl, hk9⟩; have HK9 := hid (HK8.out.trans hk9); clear hk9)
    have HK29 := hid (HK27.out.trans HK9.out)
    have HK09 := hid (HK07.out.trans HK9.out)
    have HB09 := hid ((HK09.out.block _ (blk_lt HB0.out)).trans HB0.out)
    have HB29 := hid ((HK29.out.block _ (blk_lt HB2.out)).trans HB2.out)
    have HRF : Hid (RdL CeFn 5 w9 (.slice Af2 (sqM a0).funcs.length cf2) (sqM a0).funcs) := hid (by
      obtain ⟨lf', lt', e, h1, _⟩ := (OCode.kp HO2'.out HK29.out).rd
      injection e with e
      simp at e
      obtain ⟨e1, _⟩ := e
      rw [← e1] at h1; exact h1)
    have HRG : Hid (RdL CeFn 5 w9 (.slice Af a0.funcs.length cf) a0.funcs) := hid (HF.out.kp CeFn.kp (HKA.out.trans HK09.out))
    clear z0 z1 zl y0 y1 yl x0 x1 xl u0 u1 ul hse hso hsw hnf t6 t6'
    have HGD : Hid (∀ (k : Nat) f, a0.funcs[k]? = some f → (fixM f.ins).length ≤ f.ins.length) := hid (fun k f hf => by
      obtain ⟨_, _, _, _, h4, _⟩ := sound_inv hq
      obtain ⟨q1, q2, q3⟩ := h4 k f hf
      exact fix_le (sound_good (head_ok q1).2.2.2.2.2.2.2.2.1 q2 q3))
    go_loopw [9] (fun x wr => ∃ k : Nat, k ≤ a0.funcs.length ∧ x = .int .i64 (k : Int) ∧ Kp w9 wr) (fun x _ => a0.funcs.length - (intOf x).toNat)
    case atStart => exact ⟨0, Nat.zero_le _, rfl, Kp.refl _⟩
    case round =>
      obtain ⟨k, hk, rfl, hkr⟩ := hrel
      have HKR := hid hkr
      have b0 := (hkr.block _ (blk_lt HB09.out)).trans HB09.out
      have b2 := (hkr.block _ (blk_lt HB29.out)).trans HB29.out
      have z0 := blk_cell (o := 0) (v := .slice Af a0.funcs.length cf) b0 rfl
      have z1 := blk_cell (o := 1) (v := .slice At a0.texts.length ct) b0 rfl
      have zl := blk_lt b0
      have y0 := blk_cell (o := 0) (v := .slice Af2 (sqM a0).funcs.length cf2) b2 rfl
      have y1 := blk_cell (o := 1) (v := .slice At2 (sqM a0).texts.length ct2) b2 rfl
      have yl := blk_lt b2
      by_cases hlt : k < a0.funcs.length
      · have i1 : (k : Int) < (a0.funcs.length : Int) := by omega
        have k1 : IntKind.i64.wrap ((k : Int) + 1) = (k : Int) + 1 := by have := HFL.out; rw [IntKind.wrap_i64]; omega
        have i2 : (k : Int) < ((sqM a0).funcs.length : Int) := by have := HLEN.out; omega
        obtain ⟨f, hf⟩ : ∃ f, a0.funcs[k]? = some f := ⟨_, List.getElem?_eq_getElem hlt⟩
        obtain ⟨bf, of, rfl, hbf, lf, _, _, p2, _, p4, _, _, _, _, hif, _⟩ := at_fn (HRG.out.kp CeFn.kp hkr) hf
        obtain ⟨bg, og, rfl, hbg, lg, _, _, r2, _, r4, _, _, _, _, hig, _⟩ := at_fn (HRF.out.kp CeFn.kp hkr) (sq_take hf)
        obtain ⟨Ai, ci, rfl, _⟩ := hif.form
        obtain ⟨Bi, di, rfl, _⟩ := hig.form
        have hle := HGD.out k f hf
        have i3 : ¬ (f.ins.length : Int) < ((sqF f).ins.length : Int) := by show ¬ (f.ins.length : Int) < ((fixM f.ins).length : Int); omega
        have r2 : wr.cell? ⟨bg, og + k * 5 + 2, none⟩ = some (.int .i64 f.slots) := r2
        clear hif hig hf hkr b0 b2 hle
        obtain ⟨N, hN⟩ : ∃ N, (sqM a0).funcs.length = N := ⟨_, rfl⟩
        obtain ⟨M, hM⟩ : ∃ M, (sqF f).ins.length = M := ⟨_, rfl⟩
        rw [hN] at y0 i2
        rw [hM] at r4 i3
        clear hN hM
        go_upto_region 11 with fail
        refine wp_region_kp [[], [0], [], [1, 2], [3], [4], [5], [], [7], [], [8, 9], [10], [11], [12], [6, 13], [14], [15], [15, 16], [15], [15, 17, 18], [15, 19], [15, 20], [15], [15, 22], [15], [15, 23, 24], [15, 25], [15, 26], [15, 21, 27], [15, 28]] (fun u => Kp wr u)
          [fun (y : Value) (u : World) => y = (.pointer (some ⟨n2, 0, none⟩) : Value),
           fun (y : Value) (u : World) => y = (.slice (some ⟨bg, og, none⟩) N cf2 : Value),
           fun (y : Value) (u : World) => y = (.int .i64 (k : Int) : Value),
           fun (y : Value) (u : World) => y = (.pointer (some ⟨bg, og + k * 5, none⟩) : Value),
           fun (y : Value) (u : World) => y = (.pointer (some ⟨bg, og + k * 5 + 4, none⟩) : Value),
           fun (y : Value) (u : World) => y = (.slice Bi M di : Value),
           fun (y : Value) (u : World) => y = (.int .i64 (M : Int) : Value),
           fun (y : Value) (u : World) => y = (.pointer (some ⟨n0, 0, none⟩) : Value),
           fun (y : Value) (u : World) => y = (.slice (some ⟨bf, of, none⟩) a0.funcs.length cf : Value),
           fun (y : Value) (u : World) => y = (.int .i64 (k : Int) : Value),
           fun (y : Value) (u : World) => y = (.pointer (some ⟨bf, of + k * 5, none⟩) : Value),
           fun (y : Value) (u : World) => y = (.pointer (some ⟨bf, of + k * 5 + 4, none⟩) : Value),
           fun (y : Value) (u : World) => y = (.slice Ai f.ins.length ci : Value),
           fun (y : Value) (u : World) => y = (.int .i64 (f.ins.length : Int) : Value),
           fun (y : Value) (u : World) => y = (.bool false : Value),
           fun (y : Value) (u : World) => y = (.bool false : Value),
           fun (y : Value) (u : World) => y = (.pointer (some ⟨n2, 0, none⟩) : Value),
           fun (y : Value) (u : World) => y = (.slice (some ⟨bg, og, none⟩) N cf2 : Value),
           fun (y : Value) (u : World) => y = (.int .i64 (k : Int) : Value),
           fun (y : Value) (u : World) => y = (.pointer (some ⟨bg, og + k * 5, none⟩) : Value),
           fun (y : Value) (u : World) => y = (.pointer (some ⟨bg, og + k * 5 + 2, none⟩) : Value),
           fun (y : Value) (u : World) => y = (.int .i64 f.slots : Value),
           fun (y : Value) (u : World) => y = (.pointer (some ⟨n0, 0, none⟩) : Value),
           fun (y : Value) (u : World) => y = (.slice (some ⟨bf, of, none⟩) a0.funcs.length cf : Value),
           fun (y : Value) (u : World) => y = (.int .i64 (k : Int) : Value),
           fun (y : Value) (u : World) => y = (.pointer (some ⟨bf, of + k * 5, none⟩) : Value),
           fun (y : Value) (u : World) => y = (.pointer (some ⟨bf, of + k * 5 + 2, none⟩) : Value),
           fun (y : Value) (u : World) => y = (.int .i64 f.slots : Value),
           fun (y : Value) (u : World) => y = (.bool false : Value),
           fun (y : Value) (u : World) => y = (.bool false : Value)]
          (by kernel_rfl) (by kernel_rfl) (by kernel_rfl) (by kernel_rfl) ((Kp.refl _).drew) (fun _ _ hk h => h.trans hk) ⟨fun _ _ _ _ h => h, fun _ _ _ _ h => h, fun _ _ _ _ h => h, fun _ _ _ _ h => h, fun _ _ _ _ h => h, fun _ _ _ _ h => h, fun _ _ _ _ h => h, fun _ _ _ _ h => h, fun _ _ _ _ h => h, fun _ _ _ _ h => h, fun _ _ _ _ h => h, fun _ _ _ _ h => h, fun _ _ _ _ h => h, fun _ _ _ _ h => h, fun _ _ _ _ h => h, fun _ _ _ _ h => h, fun _ _ _ _ h => h, fun _ _ _ _ h => h, fun _ _ _ _ h => h, fun _ _ _ _ h => h, fun _ _ _ _ h => h, fun _ _ _ _ h => h, fun _ _ _ _ h => h, fun _ _ _ _ h => h, fun _ _ _ _ h => h, fun _ _ _ _ h => h, fun _ _ _ _ h => h, fun _ _ _ _ h => h, fun _ _ _ _ h => h, fun _ _ _ _ h => h, trivial⟩ ⟨?sb0, ?sb1, ?sb2, ?sb3, ?sb4, ?sb5, ?sb6, ?sb7, ?sb8, ?sb9, ?sb10, ?sb11, ?sb12, ?sb13, ?sb14, ?sb15, ?sb16, ?sb17, ?sb18, ?sb19, ?sb20, ?sb21, ?sb22, ?sb23, ?sb24, ?sb25, ?sb26, ?sb27, ?sb28, ?sb29, trivial⟩ ?hEb
        case sb0 =>
          intro x u hg hd K hK
          clear hd
          refine ⟨?_⟩
          simp only [putsFrom, Act.put, List.setIfInBounds_toArray, List.set_cons_zero, List.set_cons_succ, Nat.reduceAdd] at hK ⊢
          go_simp
          exact hK.out _ _ (Kp.refl _) rfl
        case sb1 =>
          intro x u hg hd K hK
          have d0 : (x 0) = .pointer (some ⟨n2, 0, none⟩) := And.left hd
          clear hd
          have q0 := cell_kp hg yl y0
          refine ⟨?_⟩
          simp only [putsFrom, Act.put, List.setIfInBounds_toArray, List.set_cons_zero, List.set_cons_succ, Nat.reduceAdd, d0] at hK ⊢
          go_simp
          exact hK.out _ _ (Kp.refl _) rfl
        case sb2 =>
          intro x u hg hd K hK
          clear hd
          refine ⟨?_⟩
          simp only [putsFrom, Act.put, List.setIfInBounds_toArray, List.set_cons_zero, List.set_cons_succ, Nat.reduceAdd] at hK ⊢
          go_simp
          exact hK.out _ _ (Kp.refl _) rfl
        case sb3 =>
          intro x u hg hd K hK
          have d1 : (x 1) = .slice (some ⟨bg, og, none⟩) N cf2 := And.left hd
          have d2 : (x 2) = .int .i64 (k : Int) := And.left (And.right hd)
          clear hd
          refine ⟨?_⟩
          simp only [putsFrom, Act.put, List.setIfInBounds_toArray, List.set_cons_zero, List.set_cons_succ, Nat.reduceAdd, d1, d2] at hK ⊢
          go_simp
          exact hK.out _ _ (Kp.refl _) rfl
        case sb4 =>
          intro x u hg hd K hK
          have d3 : (x 3) = .pointer (some ⟨bg, og + k * 5, none⟩) := And.left hd
          clear hd
          refine ⟨?_⟩
          simp only [putsFrom, Act.put, List.setIfInBounds_toArray, List.set_cons_zero, List.set_cons_succ, Nat.reduceAdd, d3] at hK ⊢
          go_simp
          exact hK.out _ _ (Kp.refl _) rfl
        case sb5 =>
          intro x u hg hd K hK
          have d4 : (x 4) = .pointer (some ⟨bg, og + k * 5 + 4, none⟩) := And.left hd
          clear hd
          have q0 := cell_kp hg hbg r4
          refine ⟨?_⟩
          simp only [putsFrom, Act.put, List.setIfInBounds_toArray, List.set_cons_zero, List.set_cons_succ, Nat.reduceAdd, d4] at hK ⊢
          go_simp
          exact hK.out _ _ (Kp.refl _) rfl
        case sb6 =>
          intro x u hg hd K hK
          have d5 : (x 5) = .slice Bi M di := And.left hd
          clear hd
          refine ⟨?_⟩
          simp only [putsFrom, Act.put, List.setIfInBounds_toArray, List.set_cons_zero, List.set_cons_succ, Nat.reduceAdd, d5] at hK ⊢
          go_simp
          exact hK.out _ _ (Kp.refl _) rfl
        case sb7 =>
          intro x u hg hd K hK
          clear hd
          refine ⟨?_⟩
          simp only [putsFrom, Act.put, List.setIfInBounds_toArray, List.set_cons_zero, List.set_cons_succ, Nat.reduceAdd] at hK ⊢
          go_simp
          exact hK.out _ _ (Kp.refl _) rfl
        case sb8 =>
          intro x u hg hd K hK
          have d7 : (x 7) = .pointer (some ⟨n0, 0, none⟩) := And.left hd
          clear hd
          have q0 := cell_kp hg zl z0
          refine ⟨?_⟩
          simp only [putsFrom, Act.put, List.setIfInBounds_toArray, List.set_cons_zero, List.set_cons_succ, Nat.reduceAdd, d7] at hK ⊢
          go_simp
          exact hK.out _ _ (Kp.refl _) rfl
        case sb9 =>
          intro x u hg hd K hK
          clear hd
          refine ⟨?_⟩
          simp only [putsFrom, Act.put, List.setIfInBounds_toArray, List.set_cons_zero, List.set_cons_succ, Nat.reduceAdd] at hK ⊢
          go_simp
          exact hK.out _ _ (Kp.refl _) rfl
        case sb10 =>
          intro x u hg hd K hK
          have d8 : (x 8) = .slice (some ⟨bf, of, none⟩) a0.funcs.length cf := And.left hd
          have d9 : (x 9) = .int .i64 (k : Int) := And.left (And.right hd)
          clear hd
          refine ⟨?_⟩
          simp only [putsFrom, Act.put, List.setIfInBounds_toArray, List.set_cons_zero, List.set_cons_succ, Nat.reduceAdd, d8, d9] at hK ⊢
          go_simp
          exact hK.out _ _ (Kp.refl _) rfl
        case sb11 =>
          intro x u hg hd K hK
          have d10 : (x 10) = .pointer (some ⟨bf, of + k * 5, none⟩) := And.left hd
          clear hd
          refine ⟨?_⟩
          simp only [putsFrom, Act.put, List.setIfInBounds_toArray, List.set_cons_zero, List.set_cons_succ, Nat.reduceAdd, d10] at hK ⊢
          go_simp
          exact hK.out _ _ (Kp.refl _) rfl
        case sb12 =>
          intro x u hg hd K hK
          have d11 : (x 11) = .pointer (some ⟨bf, of + k * 5 + 4, none⟩) := And.left hd
          clear hd
          have q0 := cell_kp hg hbf p4
          refine ⟨?_⟩
          simp only [putsFrom, Act.put, List.setIfInBounds_toArray, List.set_cons_zero, List.set_cons_succ, Nat.reduceAdd, d11] at hK ⊢
          go_simp
          exact hK.out _ _ (Kp.refl _) rfl
        case sb13 =>
          intro x u hg hd K hK
          have d12 : (x 12) = .slice Ai f.ins.length ci := And.left hd
          clear hd
          refine ⟨?_⟩
          simp only [putsFrom, Act.put, List.setIfInBounds_toArray, List.set_cons_zero, List.set_cons_succ, Nat.reduceAdd, d12] at hK ⊢
          go_simp
          exact hK.out _ _ (Kp.refl _) rfl
        case sb14 =>
          intro x u hg hd K hK
          have d6 : (x 6) = .int .i64 (M : Int) := And.left hd
          have d13 : (x 13) = .int .i64 (f.ins.length : Int) := And.left (And.right hd)
          clear hd
          refine ⟨?_⟩
          simp only [putsFrom, Act.put, List.setIfInBounds_toArray, List.set_cons_zero, List.set_cons_succ, Nat.reduceAdd, d6, d13] at hK ⊢
          go_simp
          exact hK.out _ _ (Kp.refl _) rfl
        case sb15 =>
          intro x u hg hd K hK
          have d14 : (x 14) = .bool false := And.left hd
          clear hd
          refine ⟨?_⟩
          simp only [putsFrom, Act.put, List.setIfInBounds_toArray, List.set_cons_zero, List.set_cons_succ, Nat.reduceAdd, d14] at hK ⊢
          go_simp
          exact hK.out _ _ (Kp.refl _) rfl
        case sb16 =>
          intro x u hg hd K hK
          have d15 : (x 15) = .bool false := And.left hd
          clear hd
          refine ⟨?_⟩
          simp only [putsFrom, Act.put, List.setIfInBounds_toArray, List.set_cons_zero, List.set_cons_succ, Nat.reduceAdd, d15] at hK ⊢
          go_simp
          exact hK.out _ _ (Kp.refl _) rfl
        case sb17 =>
          intro x u hg hd K hK
          have d15 : (x 15) = .bool false := And.left hd
          have d16 : (x 16) = .pointer (some ⟨n2, 0, none⟩) := And.left (And.right hd)
          clear hd
          have q0 := cell_kp hg yl y0
          refine ⟨?_⟩
          simp only [putsFrom, Act.put, List.setIfInBounds_toArray, List.set_cons_zero, List.set_cons_succ, Nat.reduceAdd, d15, d16] at hK ⊢
          go_simp
          exact hK.out _ _ (Kp.refl _) rfl
        case sb18 =>
          intro x u hg hd K hK
          have d15 : (x 15) = .bool false := And.left hd
          clear hd
          refine ⟨?_⟩
          simp only [putsFrom, Act.put, List.setIfInBounds_toArray, List.set_cons_zero, List.set_cons_succ, Nat.reduceAdd, d15] at hK ⊢
          go_simp
          exact hK.out _ _ (Kp.refl _) rfl
        case sb19 =>
          intro x u hg hd K hK
          have d15 : (x 15) = .bool false := And.left hd
          have d17 : (x 17) = .slice (some ⟨bg, og, none⟩) N cf2 := And.left (And.right hd)
          have d18 : (x 18) = .int .i64 (k : Int) := And.left (And.right (And.right hd))
          clear hd
          refine ⟨?_⟩
          simp only [putsFrom, Act.put, List.setIfInBounds_toArray, List.set_cons_zero, List.set_cons_succ, Nat.reduceAdd, d15, d17, d18] at hK ⊢
          go_simp
          exact hK.out _ _ (Kp.refl _) rfl
        case sb20 =>
          intro x u hg hd K hK
          have d15 : (x 15) = .bool false := And.left hd
          have d19 : (x 19) = .pointer (some ⟨bg, og + k * 5, none⟩) := And.left (And.right hd)
          clear hd
          refine ⟨?_⟩
          simp only [putsFrom, Act.put, List.setIfInBounds_toArray, List.set_cons_zero, List.set_cons_succ, Nat.reduceAdd, d15, d19] at hK ⊢
          go_simp
          exact hK.out _ _ (Kp.refl _) rfl
        case sb21 =>
          intro x u hg hd K hK
          have d15 : (x 15) = .bool false := And.left hd
          have d20 : (x 20) = .pointer (some ⟨bg, og + k * 5 + 2, none⟩) := And.left (And.right hd)
          clear hd
          have q0 := cell_kp hg hbg r2
          refine ⟨?_⟩
          simp only [putsFrom, Act.put, List.setIfInBounds_toArray, List.set_cons_zero, List.set_cons_succ, Nat.reduceAdd, d15, d20] at hK ⊢
          go_simp
          exact hK.out _ _ (Kp.refl _) rfl
        case sb22 =>
          intro x u hg hd K hK
          have d15 : (x 15) = .bool false := And.left hd
          clear hd
          refine ⟨?_⟩
          simp only [putsFrom, Act.put, List.setIfInBounds_toArray, List.set_cons_zero, List.set_cons_succ, Nat.reduceAdd, d15] at hK ⊢
          go_simp
          exact hK.out _ _ (Kp.refl _) rfl
        case sb23 =>
          intro x u hg hd K hK
          have d15 : (x 15) = .bool false := And.left hd
          have d22 : (x 22) = .pointer (some ⟨n0, 0, none⟩) := And.left (And.right hd)
          clear hd
          have q0 := cell_kp hg zl z0
          refine ⟨?_⟩
          simp only [putsFrom, Act.put, List.setIfInBounds_toArray, List.set_cons_zero, List.set_cons_succ, Nat.reduceAdd, d15, d22] at hK ⊢
          go_simp
          exact hK.out _ _ (Kp.refl _) rfl
        case sb24 =>
          intro x u hg hd K hK
          have d15 : (x 15) = .bool false := And.left hd
          clear hd
          refine ⟨?_⟩
          simp only [putsFrom, Act.put, List.setIfInBounds_toArray, List.set_cons_zero, List.set_cons_succ, Nat.reduceAdd, d15] at hK ⊢
          go_simp
          exact hK.out _ _ (Kp.refl _) rfl
        case sb25 =>
          intro x u hg hd K hK
          have d15 : (x 15) = .bool false := And.left hd
          have d23 : (x 23) = .slice (some ⟨bf, of, none⟩) a0.funcs.length cf := And.left (And.right hd)
          have d24 : (x 24) = .int .i64 (k : Int) := And.left (And.right (And.right hd))
          clear hd
          refine ⟨?_⟩
          simp only [putsFrom, Act.put, List.setIfInBounds_toArray, List.set_cons_zero, List.set_cons_succ, Nat.reduceAdd, d15, d23, d24] at hK ⊢
          go_simp
          exact hK.out _ _ (Kp.refl _) rfl
        case sb26 =>
          intro x u hg hd K hK
          have d15 : (x 15) = .bool false := And.left hd
          have d25 : (x 25) = .pointer (some ⟨bf, of + k * 5, none⟩) := And.left (And.right hd)
          clear hd
          refine ⟨?_⟩
          simp only [putsFrom, Act.put, List.setIfInBounds_toArray, List.set_cons_zero, List.set_cons_succ, Nat.reduceAdd, d15, d25] at hK ⊢
          go_simp
          exact hK.out _ _ (Kp.refl _) rfl
        case sb27 =>
          intro x u hg hd K hK
          have d15 : (x 15) = .bool false := And.left hd
          have d26 : (x 26) = .pointer (some ⟨bf, of + k * 5 + 2, none⟩) := And.left (And.right hd)
          clear hd
          have q0 := cell_kp hg hbf p2
          refine ⟨?_⟩
          simp only [putsFrom, Act.put, List.setIfInBounds_toArray, List.set_cons_zero, List.set_cons_succ, Nat.reduceAdd, d15, d26] at hK ⊢
          go_simp
          exact hK.out _ _ (Kp.refl _) rfl
        case sb28 =>
          intro x u hg hd K hK
          have d15 : (x 15) = .bool false := And.left hd
          have d21 : (x 21) = .int .i64 f.slots := And.left (And.right hd)
          have d27 : (x 27) = .int .i64 f.slots := And.left (And.right (And.right hd))
          clear hd
          refine ⟨?_⟩
          simp only [putsFrom, Act.put, List.setIfInBounds_toArray, List.set_cons_zero, List.set_cons_succ, Nat.reduceAdd, d15, d21, d27] at hK ⊢
          go_simp
          exact hK.out _ _ (Kp.refl _) rfl
        case sb29 =>
          intro x u hg hd K hK
          have d15 : (x 15) = .bool false := And.left hd
          have d28 : (x 28) = .bool false := And.left (And.right hd)
          clear hd
          refine ⟨?_⟩
          simp only [putsFrom, Act.put, List.setIfInBounds_toArray, List.set_cons_zero, List.set_cons_succ, Nat.reduceAdd, d15, d28] at hK ⊢
          go_simp
          exact hK.out _ _ (Kp.refl _) rfl
        intro x u hg he
        have d0 : (x 0) = .pointer (some ⟨n2, 0, none⟩) := And.left he
        have d1 : (x 1) = .slice (some ⟨bg, og, none⟩) N cf2 := And.left (And.right he)
        have d2 : (x 2) = .int .i64 (k : Int) := And.left (And.right (And.right he))
        have d3 : (x 3) = .pointer (some ⟨bg, og + k * 5, none⟩) := And.left (And.right (And.right (And.right he)))
        have d4 : (x 4) = .pointer (some ⟨bg, og + k * 5 + 4, none⟩) := And.left (And.right (And.right (And.right (And.right he))))
        have d5 : (x 5) = .slice Bi M di := And.left (And.right (And.right (And.right (And.right (And.right he)))))
        have d6 : (x 6) = .int .i64 (M : Int) := And.left (And.right (And.right (And.right (And.right (And.right (And.right he))))))
        have d7 : (x 7) = .pointer (some ⟨n0, 0, none⟩) := And.left (And.right (And.right (And.right (And.right (And.right (And.right (And.right he)))))))
        have d8 : (x 8) = .slice (some ⟨bf, of, none⟩) a0.funcs.length cf := And.left (And.right (And.right (And.right (And.right (And.right (And.right (And.right (And.right he))))))))
        have d9 : (x 9) = .int .i64 (k : Int) := And.left (And.right (And.right (And.right (And.right (And.right (And.right (And.right (And.right (And.right he)))))))))
        have d10 : (x 10) = .pointer (some ⟨bf, of + k * 5, none⟩) := And.left (And.right (And.right (And.right (And.right (And.right (And.right (And.right (And.right (And.right (And.right he))))))))))
        have d11 : (x 11) = .pointer (some ⟨bf, of + k * 5 + 4, none⟩) := And.left (And.right (And.right (And.right (And.right (And.right (And.right (And.right (And.right (And.right (And.right (And.right he)))))))))))
        have d12 : (x 12) = .slice Ai f.ins.length ci := And.left (And.right (And.right (And.right (And.right (And.right (And.right (And.right (And.right (And.right (And.right (And.right (And.right he))))))))))))
        have d13 : (x 13) = .int .i64 (f.ins.length : Int) := And.left (And.right (And.right (And.right (And.right (And.right (And.right (And.right (And.right (And.right (And.right (And.right (And.right (And.right he)))))))))))))
        have d14 : (x 14) = .bool false := And.left (And.right (And.right (And.right (And.right (And.right (And.right (And.right (And.right (And.right (And.right (And.right (And.right (And.right (And.right he))))))))))))))
        have d15 : (x 15) = .bool false := And.left (And.right (And.right (And.right (And.right (And.right (And.right (And.right (And.right (And.right (And.right (And.right (And.right (And.right (And.right (And.right he)))))))))))))))
        have d16 : (x 16) = .pointer (some ⟨n2, 0, none⟩) := And.left (And.right (And.right (And.right (And.right (And.right (And.right (And.right (And.right (And.right (And.right (And.right (And.right (And.right (And.right (And.right (And.right he))))))))))))))))
        have d17 : (x 17) = .slice (some ⟨bg, og, none⟩) N cf2 := And.left (And.right (And.right (And.right (And.right (And.right (And.right (And.right (And.right (And.right (And.right (And.right (And.right (And.right (And.right (And.right (And.right (And.right he)))))))))))))))))
        have d18 : (x 18) = .int .i64 (k : Int) := And.left (And.right (And.right (And.right (And.right (And.right (And.right (And.right (And.right (And.right (And.right (And.right (And.right (And.right (And.right (And.right (And.right (And.right (And.right he))))))))))))))))))
        have d19 : (x 19) = .pointer (some ⟨bg, og + k * 5, none⟩) := And.left (And.right (And.right (And.right (And.right (And.right (And.right (And.right (And.right (And.right (And.right (And.right (And.right (And.right (And.right (And.right (And.right (And.right (And.right (And.right he)))))))))))))))))))
        have d20 : (x 20) = .pointer (some ⟨bg, og + k * 5 + 2, none⟩) := And.left (And.right (And.right (And.right (And.right (And.right (And.right (And.right (And.right (And.right (And.right (And.right (And.right (And.right (And.right (And.right (And.right (And.right (And.right (And.right (And.right he))))))))))))))))))))
        have d21 : (x 21) = .int .i64 f.slots := And.left (And.right (And.right (And.right (And.right (And.right (And.right (And.right (And.right (And.right (And.right (And.right (And.right (And.right (And.right (And.right (And.right (And.right (And.right (And.right (And.right (And.right he)))))))))))))))))))))
        have d22 : (x 22) = .pointer (some ⟨n0, 0, none⟩) := And.left (And.right (And.right (And.right (And.right (And.right (And.right (And.right (And.right (And.right (And.right (And.right (And.right (And.right (And.right (And.right (And.right (And.right (And.right (And.right (And.right (And.right (And.right he))))))))))))))))))))))
        have d23 : (x 23) = .slice (some ⟨bf, of, none⟩) a0.funcs.length cf := And.left (And.right (And.right (And.right (And.right (And.right (And.right (And.right (And.right (And.right (And.right (And.right (And.right (And.right (And.right (And.right (And.right (And.right (And.right (And.right (And.right (And.right (And.right (And.right he)))))))))))))))))))))))
        have d24 : (x 24) = .int .i64 (k : Int) := And.left (And.right (And.right (And.right (And.right (And.right (And.right (And.right (And.right (And.right (And.right (And.right (And.right (And.right (And.right (And.right (And.right (And.right (And.right (And.right (And.right (And.right (And.right (And.right (And.right he))))))))))))))))))))))))
        have d25 : (x 25) = .pointer (some ⟨bf, of + k * 5, none⟩) := And.left (And.right (And.right (And.right (And.right (And.right (And.right (And.right (And.right (And.right (And.right (And.right (And.right (And.right (And.right (And.right (And.right (And.right (And.right (And.right (And.right (And.right (And.right (And.right (And.right (And.right he)))))))))))))))))))))))))
        have d26 : (x 26) = .pointer (some ⟨bf, of + k * 5 + 2, none⟩) := And.left (And.right (And.right (And.right (And.right (And.right (And.right (And.right (And.right (And.right (And.right (And.right (And.right (And.right (And.right (And.right (And.right (And.right (And.right (And.right (And.right (And.right (And.right (And.right (And.right (And.right (And.right he))))))))))))))))))))))))))
        have d27 : (x 27) = .int .i64 f.slots := And.left (And.right (And.right (And.right (And.right (And.right (And.right (And.right (And.right (And.right (And.right (And.right (And.right (And.right (And.right (And.right (And.right (And.right (And.right (And.right (And.right (And.right (And.right (And.right (And.right (And.right (And.right (And.right he)))))))))))))))))))))))))))
        have d28 : (x 28) = .bool false := And.left (And.right (And.right (And.right (And.right (And.right (And.right (And.right (And.right (And.right (And.right (And.right (And.right (And.right (And.right (And.right (And.right (And.right (And.right (And.right (And.right (And.right (And.right (And.right (And.right (And.right (And.right (And.right (And.right he))))))))))))))))))))))))))))
        have d29 : (x 29) = .bool false := And.left (And.right (And.right (And.right (And.right (And.right (And.right (And.right (And.right (And.right (And.right (And.right (And.right (And.right (And.right (And.right (And.right (And.right (And.right (And.right (And.right (And.right (And.right (And.right (And.right (And.right (And.right (And.right (And.right (And.right he)))))))))))))))))))))))))))))
        clear he
        refine ⟨?_⟩
        simp only [putsFrom, Act.put, List.setIfInBounds_toArray, List.set_cons_zero, List.set_cons_succ, Nat.reduceAdd, d0, d1, d2, d3, d4, d5, d6, d7, d8, d9, d10, d11, d12, d13, d14, d15, d16, d17, d18, d19, d20, d21, d22, d23, d24, d25, d26, d27, d28, d29]
        clear d0 d1 d2 d3 d4 d5 d6 d7 d8 d9 d10 d11 d12 d13 d14 d15 d16 d17 d18 d19 d20 d21 d22 d23 d24 d25 d26 d27 d28 d29
        have HKG := hid hg
        clear hg
        go_wp2
        exact ⟨⟨k + 1, hlt, by congr 1, HKR.out.trans HKG.out⟩, by simp only [intOf, Int.toNat_natCast]; omega⟩
      · have i1 : ¬ (k : Int) < (a0.funcs.length : Int) := by omega
        have HR9 := hid (HK09.out.trans hkr)
        have HR2 := hid (HK29.out.trans hkr)
        have hcp := copied_any wr _ a0 (HRC.out.kp (HKA.out.trans HR9.out))
        clear hkr b2
        have HBW0 := hid b0
        have HBW2 := hid ((HR2.out.block _ (blk_lt HB2.out)).trans HB2.out)
        clear b0
        go_upto_region 13 with fail
        by_cases hg : GuardC a0
        · have hg1 := fun w1 v1 (h : OCode w1 wr.heap.size v1 a0) => guard_yes w1 v1 a0 h.rd hq hg
          have hg2 := fun w' (hk : Kp W2 w') => guard_yes w' _ (sqM a0) (OCode.kp HO2'.out hk).rd (by rw [sq_sound hq]) (guard_sq hq hg)
          go_wp2_with first | (go_at_call 16; refine hcp.mono ?_; rintro e wa ⟨⟨va, rfl, hoa⟩, hka⟩; have HOA := hid hoa; have HKa := hid hka; clear hoa hka) | (have _t := HKb; go_at_call 19; refine (hg2 _ (HR2.out.trans HKb.out)).mono ?_; rintro e wc ⟨rfl, hkc⟩; have HKc := hid hkc; clear hkc) | (go_at_call 19; refine (hg1 _ _ HOA.out).mono ?_; rintro e wb ⟨rfl, hkb⟩; have HKb := hid (HKa.out.trans hkb); have HBb := hid ((HKb.out.block _ (blk_lt HBW2.out)).trans HBW2.out); have v0 := blk_cell (o := 0) (v := .slice Af2 (sqM a0).funcs.length cf2) HBb.out rfl; have v1 := blk_cell (o := 1) (v := .slice At2 (sqM a0).texts.length ct2) HBb.out rfl; have vl := blk_lt HBb.out; clear hkb)
          go_ret
          exact ⟨rfl, (HKA.out.trans HR9.out).trans (HKb.out.trans HKc.out)⟩
        · have hg1 := fun w1 v1 (h : OCode w1 wr.heap.size v1 a0) => guard_no w1 v1 a0 h.rd hq hg
          go_wp2_with first | (go_at_call 16; refine hcp.mono ?_; rintro e wa ⟨⟨va, rfl, hoa⟩, hka⟩; have HOA := hid hoa; have HKa := hid hka; clear hoa hka) | (go_at_call 19; refine (hg1 _ _ HOA.out).mono ?_; rintro e wb ⟨⟨ga, gb, rfl⟩, hkb⟩; have HKb := hid (HKa.out.trans hkb); clear hkb)
          go_ret
          exact ⟨rfl, (HKA.out.trans HR9.out).trans HKb.out⟩
  · obtain ⟨s0, s1, s2, hs⟩ : ∃ s0 s1 s2, soundM a0 = (s0, s1, s2) := ⟨_, _, _, rfl⟩
    have hs0 : s0 ≠ 0 := fun e => hq (by rw [hs]; exact e)
    have hs1 := fun w1 v1 (h : OCode w1 W0.heap.size v1 a0) => squeeze_err w1 v1 a0 h.rd s0 s1 s2 hs hs0
    have q0 : (s0 != 0) = true := by simp [hs0]
    have q1 : (s0 == 0) = false := by simp [hs0]
    clear hs hs0
    go_upto_region 2 with first | (go_at_call 16; refine hcp.mono ?_; rintro e w1 ⟨⟨v1, rfl, ho1⟩, hk1⟩; have HO1 := hid ho1; have HK1 := hid hk1; clear ho1 hk1) | (go_at_call 14; refine (hs1 _ _ HO1.out).mono ?_; rintro e w2 ⟨rfl, hk2⟩; have HK2 := hid (HK1.out.trans hk2); clear hk2)
    have HB2 := hid (blk_new w2 (.cells #[.slice none 0 0, .slice none 0 0] 25))
    have HK2A := hid (HK2.out.alloc (.cells #[.slice none 0 0, .slice none 0 0] 25))
    generalize (w2.alloc (.cells #[.slice none 0 0, .slice none 0 0] 25)) = W2 at HB2 HK2A ⊢
    generalize w2.heap.size = n2 at HB2 ⊢
    clear z0 z1 zl hs1 hcp
    have hle := least_any W2
    have hs4 := fun w4 v4 (h : OCode w4 W2.heap.size v4 leastM) => squeeze_ok w4 v4 leastM h.rd (by rw [least_sound])
    go_upto_region 3 with first | (go_at_call 15; refine hle.mono ?_; rintro e w4 ⟨⟨v4, rfl, ho4⟩, hk4⟩; have HO4 := hid ho4; have HK4 := hid hk4; clear ho4 hk4) | (go_at_call 14; refine (hs4 _ _ HO4.out).mono ?_; rintro e w5 ⟨⟨v5, rfl, ho5⟩, hk5⟩; obtain ⟨Af5, cf5, At5, ct5, rfl⟩ := OCode.form ho5; have HK5 := hid (HK4.out.trans hk5); clear ho5 hk5)
    have HB5 := hid (blk_new w5 (.cells #[.slice Af5 (sqM leastM).funcs.length cf5, .slice At5 (sqM leastM).texts.length ct5] 25))
    have HK5A := hid (HK5.out.alloc (.cells #[.slice Af5 (sqM leastM).funcs.length cf5, .slice At5 (sqM leastM).texts.length ct5] 25))
    generalize (w5.alloc (.cells #[.slice Af5 (sqM leastM).funcs.length cf5, .slice At5 (sqM leastM).texts.length ct5] 25)) = W5 at HB5 HK5A ⊢
    generalize w5.heap.size = n5 at HB5 ⊢
    have t5 : (((sqM leastM).funcs.length : Int) == 1) = true := by rw [sq_least]; rfl
    have t5' : (((sqM leastM).funcs.length : Int) != 1) = false := by rw [sq_least]; rfl
    have HB25 := hid ((HK5A.out.block _ (blk_lt HB2.out)).trans HB2.out)
    have y0 := blk_cell (o := 0) (v := .slice Af5 (sqM leastM).funcs.length cf5) HB5.out rfl
    have yl := blk_lt HB5.out
    have z0 := blk_cell (o := 0) (v := .slice none 0 0) HB25.out rfl
    have zl := blk_lt HB25.out
    clear hle hs4
    go_wp2
    go_ret
    exact ⟨rfl, (HKA.out.trans HK2A.out).trans HK5A.out⟩
/-! ### The row's step (the guide's frame, written by program) -/
set_option maxRecDepth 100000 in
theorem lifted (os : Os) (started : os.Started) (H : Type) (enc : TypeId × Value → H) :
    ReturnsInHanded {} Try.checked os 5 .any (Rows.squeezeAgainSpec.pre6 enc Try.prog Try.f5 Rows.squeezeAgainRow.domain false) (Rows.squeezeAgainSpec.post enc Try.prog Try.f5 false true false false) := by
  refine returnsInHanded_of_change_sized (C := Try.checked) own started (by kernel_rfl) Try.func5
    (ChangeSpec.witness6 (enc := enc) (C := Try.checked) false ⟨#[], #[.agg #[.slice none 0 0, .slice none 0 0]], []⟩ 8 (by kernel_rfl) (by kernel_rfl) (by kernel_rfl) (by kernel_rfl)) ?_
  intro W base args ds gs before hval0 hW _ hsz0 _
  have hsz : (DataW.weightsEach Try.prog (Try.f5.params.toList ++ Rows.squeezeAgainSpec.plain.varTypes Try.prog) (ds ++ gs)).all (· ≤ reachBytes) = true := hsz0
  clear hsz0
  have hval : ∀ (j : Nat) t v, Try.f5.params[j]? = some t → args[j]? = some v → Value.okWide Try.prog W .any base t v := hval0
  have hW' := hW
  obtain ⟨p, q, hA0, hV, rfl, hfz, hnd⟩ := hW
  have hA : DataW.TrodAll enc Try.prog W 0 (fun _ => true) true Try.f5.params.toList args.toList ds p := hA0
  rw [Try.params5] at hA hval hsz
  obtain ⟨v0, vs0, d0, ds0, p0, q0, hargs, rfl, rfl, h0, r0⟩ := trodAll_cons hA
  obtain ⟨rfl, rfl, rfl⟩ := trodAll_nil r0
  obtain rfl : args = #[v0] := by cases args; simp_all
  obtain ⟨rfl, rfl⟩ := trodVars_none hV
  have k0 := h0
  have lt0 : ∀ x ∈ p0, x.block < W.heap.size := by obtain ⟨m, hm⟩ := k0; exact DataW.trod_lt m _ _ _ hm
  have hz0 : ∀ n ∈ DataW.weights Try.prog 25 d0, n ≤ reachBytes := fun n hn => by
    have := List.all_eq_true.1 hsz _ (DataW.weights_mem_each (j := 0) rfl rfl n hn)
    simpa using this
  obtain ⟨a0, w0⟩ := open_code (hval 0 25 v0 rfl rfl) h0 hz0
  clear hA0 hval0
  simp only [List.append_nil] at hW'
  refine (walk v0 a0 W w0).mono fun e W' ⟨he, bel⟩ => ?_
  subst he
  exact ⟨_, rfl, _, _, _, [], _, [], hW', trodAll_mk1 (shut_bool Try.underlying4 _), (trodAll_cons_mk (Below.trod laidOut (by kernel_rfl) (of_decide_eq_true (by kernel_rfl)) k0 bel lt0) trodAll_mk0), rfl, Below.frame bel _, fun h => by cases h⟩

theorem over : Rows.squeezeAgainRow.holds Try.pinned (OpenSpec.ofChange Rows.squeezeAgainSpec) :=
  OpenClaim.holds_of_wide 5 Try.f5 rfl rfl rfl rfl rfl rfl rfl ⟨rfl, rfl, rfl, rfl, rfl⟩ rfl rfl rfl rfl rfl (by kernel_rfl) Try.func5 (by kernel_rfl)
    (of_decide_eq_true (by kernel_rfl)) (by unfold Func.isWrapper; rw [if_neg (of_decide_eq_false (by kernel_rfl))]; exact ⟨rfl, rfl⟩)
    (fun os started H enc _ => lifted os started H enc)

/-- THE STATEMENT. -/
theorem proved : Rows.SqueezeAgainSaid := over
#print axioms proved

end Go.Proofs.Ytgonekmmbeedeaa.squeezeAgain
