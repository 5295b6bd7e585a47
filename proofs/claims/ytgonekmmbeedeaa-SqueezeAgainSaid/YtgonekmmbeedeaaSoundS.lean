/-
  Package code: Sound. Condition: what comes in lies within the reach.
-/
import Derived.Test.YtgonekmmbeedeaaSoundH
import Derived.Test.YtgonekmmbeedeaaSoundI
import Derived.Test.YtgonekmmbeedeaaSoundQ
namespace Go.Proofs.Ytgonekmmbeedeaa
open Go.RowKit
set_option linter.unusedVariables false
set_option linter.unusedSimpArgs false

theorem quote_ok {s : ByteArray} (h : textE s = 0) (w : World) : Calls Try.prog 34 #[.string s] w fun e w' => e = .returned (.tuple #[.string ⟨(34 :: (escs s.data.toList ++ [34])).toArray⟩, .int .i64 0]) ∧ Kp w w' := by
  rcases textE_cases s with ⟨_, h1, h2⟩ | ⟨h1, _⟩
  · refine (quote_short s w h1).mono ?_
    rintro e w' ⟨⟨_, he⟩ | ⟨h3, _⟩, hk⟩
    · exact ⟨he, hk⟩
    · exact absurd h2 h3
  · rw [h1] at h; cases h
theorem quote_err {s : ByteArray} (hs : s.size ≤ 140737488351232) (h : textE s = 4) (w : World) : Calls Try.prog 34 #[.string s] w fun e w' => (∃ er : Int, 1 ≤ er ∧ e = .returned (.tuple #[.string ⟨#[]⟩, .int .i64 er])) ∧ Kp w w' := by
  rcases textE_cases s with ⟨h1, _⟩ | ⟨_, h2⟩
  · rw [h1] at h; cases h
  by_cases hl : 200 < s.size
  · refine (quote_long s w hl (by omega)).mono ?_
    rintro e w' ⟨rfl, hk⟩
    exact ⟨⟨1, by omega, rfl⟩, hk⟩
  · refine (quote_short s w (by omega)).mono ?_
    rintro e w' ⟨⟨h3, _⟩ | ⟨_, rfl⟩, hk⟩
    · exact absurd ⟨by omega, h3⟩ h2
    · exact ⟨⟨4, by omega, rfl⟩, hk⟩
theorem snd_round {P : Nat → Prop} {k n : Nat} {W u : World} (hk : k < n) (h : ∀ j, j < k + 1 → P j) (hkp : Kp W u) :
    (∃ k1 : Nat, k1 ≤ n ∧ Value.int .i64 ((k : Int) + 1) = .int .i64 (k1 : Int) ∧ (∀ j, j < k1 → P j) ∧ Kp W u) ∧ n - (intOf (.int .i64 ((k : Int) + 1))).toNat < n - (intOf (.int .i64 (k : Int))).toNat :=
  ⟨⟨k + 1, hk, by congr 1, h, hkp⟩, by simp only [intOf, Int.toNat_natCast]; omega⟩
def fixV (a b c : Int) : Value := .agg #[.int .i64 a, .int .i64 b, .int .i64 c]
/-- The result's box, written at the end. -/
theorem snd_end {w wr : World} {n1 : Nat} {x0 x1 x2 : Value} (hb : wr.heap[n1]? = some (.cells #[x0, x1, x2] 41 (0, 0))) (hle : w.heap.size ≤ n1) (hk : Kp w wr) (a b c : Value) :
    (((wr.setCell ⟨n1, 0, none⟩ a).setCell ⟨n1, 1, none⟩ b).setCell ⟨n1, 2, none⟩ c).cell? ⟨n1, 0, none⟩ = some a ∧ (((wr.setCell ⟨n1, 0, none⟩ a).setCell ⟨n1, 1, none⟩ b).setCell ⟨n1, 2, none⟩ c).cell? ⟨n1, 1, none⟩ = some b ∧
    (((wr.setCell ⟨n1, 0, none⟩ a).setCell ⟨n1, 1, none⟩ b).setCell ⟨n1, 2, none⟩ c).cell? ⟨n1, 2, none⟩ = some c ∧ Kp w (((wr.setCell ⟨n1, 0, none⟩ a).setCell ⟨n1, 1, none⟩ b).setCell ⟨n1, 2, none⟩ c) := by
  have h0 : BoxAt wr n1 0 := BoxAt.mk_ (blk_cell (o := 0) (v := x0) hb rfl) (blk_free hb)
  have h1 : BoxAt wr n1 1 := BoxAt.mk_ (blk_cell (o := 1) (v := x1) hb rfl) (blk_free hb)
  have h2 : BoxAt wr n1 2 := BoxAt.mk_ (blk_cell (o := 2) (v := x2) hb rfl) (blk_free hb)
  obtain ⟨g0, g1, g2⟩ := set3_cells h0 h1 h2 a b c
  exact ⟨g0, g1, g2, ((hk.setCell (p := ⟨n1, 0, none⟩) hle _).setCell (p := ⟨n1, 1, none⟩) hle _).setCell (p := ⟨n1, 2, none⟩) hle _⟩
theorem last_at {f : FnM} {i : InsM} (hi : f.ins[f.ins.length - 1]? = some i) : lastOk f = decide (i.op = 26 ∨ i.op = 29 ∨ i.op = 30) := by
  unfold lastOk
  rw [List.getLast?_eq_getElem?, hi]
set_option maxRecDepth 20000 in
set_option maxHeartbeats 16000000 in
theorem sound_any (w : World) (v : Value) (c : CodeM) (h : RdCode w v c) : Calls Try.prog 18 #[v] w fun e w' => e = .returned (fixV (soundM c).1 (soundM c).2.1 (soundM c).2.2) ∧ Kp w w' := by
  obtain ⟨lf, lt, rfl, hf, hfl, ht, htl⟩ := h
  have HF := hid hf
  have HT := hid ht
  obtain ⟨Af, cf, rfl, _⟩ := hf.form
  obtain ⟨At, ct, rfl, _⟩ := ht.form
  clear hf ht
  unfold fixV
  have HKA := fun (o1 o2 : Obj) => hid (show Kp w ((w.alloc o1).alloc o2) from ((Kp.refl _).alloc _).alloc _)
  by_cases hn : c.funcs = []
  · have HR := hid (sound_none hn)
    have e0 : ((c.funcs.length : Int) == 0) = true := by rw [hn]; rfl
    clear hn
    go_enter Try.func18, Try.ntmps18
    go_wp2
    exact bodyPost_ret (v := .agg #[.int .i64 16, .int .i64 (-1), .int .i64 (-1)]) (by simp [results, Try.results18, go_sem]) rfl ⟨by rw [HR.out], (HKA _ _).out⟩
  have hfp : c.funcs.length ≠ 0 := fun h => hn (List.length_eq_zero_iff.1 h)
  have e0 : ((c.funcs.length : Int) == 0) = false := by rw [beq_eq_false_iff_ne]; omega
  have HNE := hid hn
  clear hn
  by_cases hb : 400 < c.funcs.length ∨ 2000 < c.texts.length
  · have HR := hid (sound_full HNE.out hb)
    rcases Nat.lt_or_ge 400 c.funcs.length with h4 | h4
    · have e1 : (400 : Int) < (c.funcs.length : Int) := by omega
      clear hb h4
      go_enter Try.func18, Try.ntmps18
      go_wp2
      exact bodyPost_ret (v := .agg #[.int .i64 15, .int .i64 (-1), .int .i64 (-1)]) (by simp [results, Try.results18, go_sem]) rfl ⟨by rw [HR.out], (HKA _ _).out⟩
    · have e1 : ¬ (400 : Int) < (c.funcs.length : Int) := by omega
      have e2 : (2000 : Int) < (c.texts.length : Int) := by omega
      clear hb h4
      go_enter Try.func18, Try.ntmps18
      go_wp2
      exact bodyPost_ret (v := .agg #[.int .i64 15, .int .i64 (-1), .int .i64 (-1)]) (by simp [results, Try.results18, go_sem]) rfl ⟨by rw [HR.out], (HKA _ _).out⟩
  have e1 : ¬ (400 : Int) < (c.funcs.length : Int) := by omega
  have e2 : ¬ (2000 : Int) < (c.texts.length : Int) := by omega
  have HBD := hid hb
  clear hb
  have HKW := HKA (.cells #[.slice Af c.funcs.length cf, .slice At c.texts.length ct] 25) (.cells #[.int .i64 0, .int .i64 0, .int .i64 0] 41)
  have HB0 := hid (blk_old (blk_new w (.cells #[.slice Af c.funcs.length cf, .slice At c.texts.length ct] 25)) (.cells #[.int .i64 0, .int .i64 0, .int .i64 0] 41))
  have HB1 := hid (blk_new (w.alloc (.cells #[.slice Af c.funcs.length cf, .slice At c.texts.length ct] 25)) (.cells #[.int .i64 0, .int .i64 0, .int .i64 0] 41))
  rw [show (w.alloc (.cells #[.slice Af c.funcs.length cf, .slice At c.texts.length ct] 25)).heap.size = w.heap.size + 1 by simp] at HB1
  go_enter Try.func18, Try.ntmps18
  go_wp2_with fail
  generalize ((w.alloc (.cells #[.slice Af c.funcs.length cf, .slice At c.texts.length ct] 25)).alloc (.cells #[.int .i64 0, .int .i64 0, .int .i64 0] 41)) = W at HKW HB0 HB1 ⊢
  clear HKA
  have HLE := hid (show w.heap.size ≤ w.heap.size + 1 by omega)
  generalize hn1 : w.heap.size + 1 = n1 at HB1 HLE ⊢
  generalize hn0 : w.heap.size = n0 at HB0 ⊢
  clear hn1 hn0
  go_loopw [35] (fun x wr => ∃ k : Nat, k ≤ c.texts.length ∧ x = .int .i64 (k : Int) ∧ (∀ j, j < k → (fun j => ∀ t, c.texts[j]? = some t → textE t = 0) j) ∧ Kp W wr) (fun x _ => c.texts.length - (intOf x).toNat)
  case atStart => exact ⟨0, by omega, rfl, fun j hj => absurd hj (Nat.not_lt_zero _), Kp.refl _⟩
  case round =>
    obtain ⟨k, hk, rfl, hall, hkr⟩ := hrel
    have HALL := hid hall
    have HKR := hid hkr
    have hm0 := blk_lt HB0.out
    have hm1 := blk_lt HB1.out
    have hle := hkr.le
    have b0 := (hkr.block _ hm0).trans HB0.out
    have b1 := (hkr.block _ hm1).trans HB1.out
    have HB1r := hid b1
    have m0 : n0 < wr.heap.size := by omega
    have j0 := blk_cell (o := 0) (v := Value.slice Af c.funcs.length cf) b0 rfl
    have j1 := blk_cell (o := 1) (v := Value.slice At c.texts.length ct) b0 rfl
    clear hall hm0 hm1 hle hkr b0 b1
    have HKT := hid (HKW.out.trans HKR.out)
    by_cases hlt : k < c.texts.length
    · have i1 : (k : Int) < (c.texts.length : Int) := by omega
      have k1 := wrap_in ((k : Int) + 1) (by omega)
      obtain ⟨t, ht⟩ : ∃ t, c.texts[k]? = some t := ⟨_, List.getElem?_eq_getElem hlt⟩
      obtain ⟨b, off, rfl, hbl, q0, hts⟩ := at_str (HT.out.kp CeStr.kp HKT.out) ht
      have HTS := hid hts
      have HTK := hid ht
      clear ht hts
      rcases textE_cases t with ⟨hte, _⟩ | ⟨hte, _⟩
      · have HTE := hid hte
        clear hte
        go_wp2_with (go_at_call 34; go_must (refine (quote_ok HTE.out _).mono ?_); rintro e w9 ⟨rfl, hk9⟩)
        refine snd_round hlt (all_succ HALL.out ?_) (HKR.out.trans hk9)
        intro t2 ht2
        rw [HTK.out] at ht2
        injection ht2 with ht2
        rw [← ht2]; exact HTE.out
      · have HTE := hid hte
        clear hte
        have HR := hid (sound_text HNE.out HBD.out (fun j t hj ht => HALL.out j hj t ht) HTK.out HTE.out)
        go_wp2_with (go_at_call 34; go_must (refine (quote_err HTS.out HTE.out _).mono ?_); rintro e w9 ⟨⟨er, her, rfl⟩, hk9⟩; have z9 : (er != 0) = true := (by simp; omega); have HK9 := hid hk9; have HB9 := hid ((hk9.block _ (blk_lt HB1r.out)).trans HB1r.out); have y0 := blk_cell (o := 0) (v := Value.int IntKind.i64 0) HB9.out rfl; have y1 := blk_cell (o := 1) (v := Value.int IntKind.i64 0) HB9.out rfl; have y2 := blk_cell (o := 2) (v := Value.int IntKind.i64 0) HB9.out rfl; have yf0 := blk_free (o := 0) HB9.out; have yf1 := blk_free (o := 1) HB9.out; have yf2 := blk_free (o := 2) HB9.out; clear hk9)
        obtain ⟨z0, z1, z2, z3⟩ := snd_end HB9.out HLE.out (HKT.out.trans HK9.out) (.int .i64 4) (.int .i64 (-1)) (.int .i64 k)
        exact bodyPost_ret (v := .agg #[.int .i64 4, .int .i64 (-1), .int .i64 k]) (by simp [results, Try.results18, go_sem, z0, z1, z2]) rfl ⟨by rw [HR.out], z3⟩
    · have i1 : ¬ (k : Int) < (c.texts.length : Int) := by omega
      obtain rfl : k = c.texts.length := by omega
      have HTX := hid (show ∀ (j : Nat) t, c.texts[j]? = some t → textE t = 0 from fun j t ht => HALL.out j (by
        rcases Nat.lt_or_ge j c.texts.length with h | h
        · exact h
        · rw [List.getElem?_eq_none h] at ht; cases ht) t ht)
      clear hlt hk HALL j1
      go_wp2_with fail
      obtain ⟨wo, hwo⟩ : ∃ x, x = wr := ⟨_, rfl⟩
      subst hwo
      go_loopw [53] (fun x ws => ∃ k : Nat, k ≤ c.funcs.length ∧ x = .int .i64 (k : Int) ∧ (∀ j, j < k → (fun j => ∀ g, c.funcs[j]? = some g → (fnE c j g).1 = 0) j) ∧ Kp wo ws) (fun x _ => c.funcs.length - (intOf x).toNat)
      case atStart => exact ⟨0, by omega, rfl, fun j hj => absurd hj (Nat.not_lt_zero _), Kp.refl _⟩
      case round =>
        obtain ⟨ws, hws⟩ : ∃ x, x = wr := ⟨_, rfl⟩
        subst hws
        obtain ⟨k, hk, rfl, hall, hks⟩ := hrel
        have HALL := hid hall
        have HKS := hid (HKR.out.trans hks)
        have HKS0 := hid hks
        have hm0 := blk_lt HB0.out
        have hm1 := blk_lt HB1.out
        have hle := HKS.out.le
        have b0 := (HKS.out.block _ hm0).trans HB0.out
        have b1 := (HKS.out.block _ hm1).trans HB1.out
        have HB0s := hid b0
        have HB1s := hid b1
        have m0s : n0 < ws.heap.size := by omega
        have j0 := blk_cell (o := 0) (v := Value.slice Af c.funcs.length cf) b0 rfl
        have j1 := blk_cell (o := 1) (v := Value.slice At c.texts.length ct) b0 rfl
        clear hall hm0 hm1 hle hks b0 b1 m0
        have HKU := hid (HKW.out.trans HKS.out)
        by_cases hlt : k < c.funcs.length
        · have i1 : (k : Int) < (c.funcs.length : Int) := by omega
          have k1 := wrap_in ((k : Int) + 1) (by have := HBD.out; omega)
          obtain ⟨f, hf⟩ : ∃ f, c.funcs[k]? = some f := ⟨_, List.getElem?_eq_getElem hlt⟩
          obtain ⟨b, off, rfl, hbl, lins, q0, q1, q2, q3, q4, hns, hp_, hs_, hc_, hins, hil⟩ := at_fn (HF.out.kp CeFn.kp HKU.out) hf
          have HFK := hid hf
          have HNS := hid hns
          have HIN := hid hins
          obtain ⟨Ai, ci, rfl, _⟩ := hins.form
          clear hf hns hp_ hs_ hc_ hins hil
          go_upto_region 15 with fail
          have HK2 := hid (show Kp ws (ws.alloc (.cells #[.string f.name, .int .i64 f.params, .int .i64 f.slots, .int .i64 f.caps, .slice Ai f.ins.length ci] 45)) from (Kp.refl _).alloc _)
          have HB2 := hid (blk_new ws (.cells #[.string f.name, .int .i64 f.params, .int .i64 f.slots, .int .i64 f.caps, .slice Ai f.ins.length ci] 45))
          generalize (ws.alloc (.cells #[.string f.name, .int .i64 f.params, .int .i64 f.slots, .int .i64 f.caps, .slice Ai f.ins.length ci] 45)) = W2 at HK2 HB2 ⊢
          generalize ws.heap.size = n2 at HB2 ⊢
          have g0 := blk_cell (o := 0) (v := Value.string f.name) HB2.out rfl
          have g1 := blk_cell (o := 1) (v := Value.int .i64 f.params) HB2.out rfl
          have g2 := blk_cell (o := 2) (v := Value.int .i64 f.slots) HB2.out rfl
          have g3 := blk_cell (o := 3) (v := Value.int .i64 f.caps) HB2.out rfl
          have g4 := blk_cell (o := 4) (v := Value.slice Ai f.ins.length ci) HB2.out rfl
          have gl := blk_lt HB2.out
          have HB1t := hid ((HK2.out.block _ (blk_lt HB1s.out)).trans HB1s.out)
          have HB0t := hid ((HK2.out.block _ (blk_lt HB0s.out)).trans HB0s.out)
          have j0t := blk_cell (o := 0) (v := Value.slice (some ⟨b, off, none⟩) c.funcs.length cf) HB0t.out rfl
          have j1t := blk_cell (o := 1) (v := Value.slice At c.texts.length ct) HB0t.out rfl
          clear j0 j1 q0 q1 q2 q3 q4
          by_cases hh : headM k f = 0
          · have HOK := hid (head_ok hh)
            have HHD := hid hh
            have HJK := hid (show JOk c f from ⟨by have := HBD.out; omega, by have := HBD.out; omega, HOK.out.2.2.2.2.2.2.2.2.2, HOK.out.2.1, HOK.out.2.2.1, HOK.out.2.2.2.1, HOK.out.2.2.2.2.1, HOK.out.2.2.2.2.2.1, HOK.out.2.2.2.2.2.2.1⟩)
            clear hh
            go_upto_region 19 with (go_at_call 35; go_must (refine (head_any k f Ai ci HNS.out _).mono ?_); rintro e wh ⟨rfl, hkh⟩; rw [HHD.out]; have HKH := hid hkh; have HB0h := hid ((hkh.block _ (blk_lt HB0t.out)).trans HB0t.out); have HB1h := hid ((hkh.block _ (blk_lt HB1t.out)).trans HB1t.out); have HB2h := hid ((hkh.block _ (blk_lt HB2.out)).trans HB2.out); have h0 := blk_cell (o := 0) (v := Value.slice (some ⟨b, off, none⟩) c.funcs.length cf) HB0h.out rfl; have h1 := blk_cell (o := 1) (v := Value.slice At c.texts.length ct) HB0h.out rfl; have u0 := blk_cell (o := 0) (v := Value.string f.name) HB2h.out rfl; have u1 := blk_cell (o := 1) (v := Value.int .i64 f.params) HB2h.out rfl; have u2 := blk_cell (o := 2) (v := Value.int .i64 f.slots) HB2h.out rfl; have u3 := blk_cell (o := 3) (v := Value.int .i64 f.caps) HB2h.out rfl; have u4 := blk_cell (o := 4) (v := Value.slice Ai f.ins.length ci) HB2h.out rfl; clear hkh)
            have HK3 := hid (show Kp wh (wh.alloc (.cells #[.slice (some ⟨b, off, none⟩) c.funcs.length cf, .slice At c.texts.length ct, .string f.name, .int .i64 f.params, .int .i64 f.slots, .int .i64 f.caps, .slice Ai f.ins.length ci] 80)) from (Kp.refl _).alloc _)
            have HB3 := hid (blk_new wh (.cells #[.slice (some ⟨b, off, none⟩) c.funcs.length cf, .slice At c.texts.length ct, .string f.name, .int .i64 f.params, .int .i64 f.slots, .int .i64 f.caps, .slice Ai f.ins.length ci] 80))
            generalize (wh.alloc (.cells #[.slice (some ⟨b, off, none⟩) c.funcs.length cf, .slice At c.texts.length ct, .string f.name, .int .i64 f.params, .int .i64 f.slots, .int .i64 f.caps, .slice Ai f.ins.length ci] 80)) = W3 at HK3 HB3 ⊢
            generalize wh.heap.size = n3 at HB3 ⊢
            have HB1u := hid ((HK3.out.block _ (blk_lt HB1h.out)).trans HB1h.out)
            have HB2u := hid ((HK3.out.block _ (blk_lt HB2h.out)).trans HB2h.out)
            have HKV := hid (HKU.out.trans (HK2.out.trans (HKH.out.trans HK3.out)))
            have v4 := blk_cell (o := 4) (v := Value.slice Ai f.ins.length ci) HB2u.out rfl
            clear g0 g1 g2 g3 g4 gl j0t j1t h0 h1 u0 u1 u2 u3 u4
            go_wp2_with fail
            go_loopw [72] (fun x wt => ∃ a : Nat, a ≤ f.ins.length ∧ x = .int .i64 (a : Int) ∧ (∀ j, j < a → (fun j => ∀ i, f.ins[j]? = some i → insM c f i = 0) j) ∧ Kp W3 wt) (fun x _ => f.ins.length - (intOf x).toNat)
            case atStart => exact ⟨0, by omega, rfl, fun j hj => absurd hj (Nat.not_lt_zero _), Kp.refl _⟩
            case round =>
              obtain ⟨wt, hwt⟩ : ∃ x, x = wr := ⟨_, rfl⟩
              subst hwt
              obtain ⟨a, ha, rfl, hal, hkt⟩ := hrel
              have HAL := hid hal
              have HKT3 := hid hkt
              have HB1v := hid ((hkt.block _ (blk_lt HB1u.out)).trans HB1u.out)
              have HB2v := hid ((hkt.block _ (blk_lt HB2u.out)).trans HB2u.out)
              have HB3v := hid ((hkt.block _ (blk_lt HB3.out)).trans HB3.out)
              have HKX := hid (HKV.out.trans hkt)
              clear hal hkt
              by_cases hlt2 : a < f.ins.length
              · have i2 : (a : Int) < (f.ins.length : Int) := by omega
                have a1 := wrap_in ((a : Int) + 1) (by have := HJK.out.ni; omega)
                obtain ⟨i, hi⟩ : ∃ i, f.ins[a]? = some i := ⟨_, List.getElem?_eq_getElem hlt2⟩
                obtain ⟨bi, oi, rfl, hbi, r0, r1, r2, r3, r4, r5, _⟩ := at_ins ((HIN.out.kp CeIns.kp (HK2.out.trans (HKH.out.trans (HK3.out.trans HKT3.out))))) hi
                have HIK := hid hi
                clear hi
                have HBJ := hid (show JudgeAt (wt.alloc (.cells #[.int .i64 i.op, .int .i64 i.a, .int .i64 i.b, .int .i64 i.c, .int .i64 i.d, .int .i64 i.e] 64)) (.agg #[.slice (some ⟨b, off, none⟩) c.funcs.length cf, .slice At c.texts.length ct, .string f.name, .int .i64 f.params, .int .i64 f.slots, .int .i64 f.caps, .slice (some ⟨bi, oi, none⟩) f.ins.length ci]) c f from ⟨_, _, _, _, rfl, HF.out.kp CeFn.kp (HKX.out.alloc _), HT.out.kp CeStr.kp (HKX.out.alloc _)⟩)
                have k0 := blk_cell (o := 0) (v := Value.slice (some ⟨b, off, none⟩) c.funcs.length cf) HB3v.out rfl
                have k1' := blk_cell (o := 1) (v := Value.slice At c.texts.length ct) HB3v.out rfl
                have k2 := blk_cell (o := 2) (v := Value.string f.name) HB3v.out rfl
                have k3 := blk_cell (o := 3) (v := Value.int .i64 f.params) HB3v.out rfl
                have k4 := blk_cell (o := 4) (v := Value.int .i64 f.slots) HB3v.out rfl
                have k5 := blk_cell (o := 5) (v := Value.int .i64 f.caps) HB3v.out rfl
                have k6 := blk_cell (o := 6) (v := Value.slice (some ⟨bi, oi, none⟩) f.ins.length ci) HB3v.out rfl
                have kl := blk_lt HB3v.out
                by_cases hz : insM c f i = 0
                · have HZ := hid hz
                  clear hz
                  go_wp2_with (go_at_call 36; go_must (refine (ins_any _ _ c f i HJK.out HBJ.out).mono ?_); rintro e w9 ⟨rfl, hk9⟩; rw [HZ.out]; have HK9 := hid hk9; clear hk9)
                  refine snd_round hlt2 (all_succ HAL.out ?_) (HKT3.out.trans (((Kp.refl _).alloc _).trans HK9.out))
                  intro i2 hi2
                  rw [HIK.out] at hi2
                  injection hi2 with hi2
                  rw [← hi2]; exact HZ.out
                · have HZ := hid hz
                  have z9 : (insM c f i != 0) = true := by simpa using hz
                  clear hz
                  have hfe := fnE_ins HHD.out (fun j b hj hb => HAL.out j hj b hb) HIK.out HZ.out
                  have HR := hid (sound_fn HNE.out HBD.out HTX.out (fun j g hj hg => HALL.out j hj g hg) HFK.out hfe HZ.out)
                  have HBI := hid (blk_old HB1v.out (.cells #[.int .i64 i.op, .int .i64 i.a, .int .i64 i.b, .int .i64 i.c, .int .i64 i.d, .int .i64 i.e] 64))
                  clear hfe
                  go_wp2_with (go_at_call 36; go_must (refine (ins_any _ _ c f i HJK.out HBJ.out).mono ?_); rintro e w9 ⟨rfl, hk9⟩; have HB9 := hid ((hk9.block _ (blk_lt HBI.out)).trans HBI.out); have y0 := blk_cell (o := 0) (v := Value.int IntKind.i64 0) HB9.out rfl; have y1 := blk_cell (o := 1) (v := Value.int IntKind.i64 0) HB9.out rfl; have y2 := blk_cell (o := 2) (v := Value.int IntKind.i64 0) HB9.out rfl; have yf0 := blk_free (o := 0) HB9.out; have yf1 := blk_free (o := 1) HB9.out; have yf2 := blk_free (o := 2) HB9.out; have HK9 := hid hk9; clear hk9)
                  obtain ⟨z0, z1, z2, z3⟩ := snd_end HB9.out HLE.out (HKX.out.trans (((Kp.refl _).alloc _).trans HK9.out)) (.int .i64 (insM c f i)) (.int .i64 k) (.int .i64 a)
                  exact bodyPost_ret (v := .agg #[.int .i64 (insM c f i), .int .i64 k, .int .i64 a]) (by simp [results, Try.results18, go_sem, z0, z1, z2]) rfl ⟨by rw [HR.out], z3⟩
              · have i2 : ¬ (a : Int) < (f.ins.length : Int) := by omega
                obtain rfl : a = f.ins.length := by omega
                have hall : ∀ (j : Nat) b, f.ins[j]? = some b → insM c f b = 0 := fun j b hb => HAL.out j (by
                  rcases Nat.lt_or_ge j f.ins.length with h | h
                  · exact h
                  · rw [List.getElem?_eq_none h] at hb; cases hb) b hb
                have hpos : 0 < f.ins.length := by
                  rcases Nat.eq_zero_or_pos f.ins.length with h | h
                  · exact absurd (List.length_eq_zero_iff.1 h) HOK.out.2.2.2.2.2.2.2.2.1
                  · exact h
                obtain ⟨i, hi⟩ : ∃ i, f.ins[f.ins.length - 1]? = some i := ⟨_, List.getElem?_eq_getElem (by omega)⟩
                obtain ⟨bi, oi, rfl, hbi, r0, _⟩ := at_ins ((HIN.out.kp CeIns.kp (HK2.out.trans (HKH.out.trans (HK3.out.trans HKT3.out))))) hi
                have hlast := last_at hi
                obtain ⟨m, hm⟩ : ∃ m, f.ins.length - 1 = m := ⟨_, rfl⟩
                rw [hm] at r0
                have l1 : IntKind.i64.wrap ((f.ins.length : Int) - 1) = (m : Int) := by rw [wrap_in _ (by have := HJK.out.ni; omega)]; omega
                have l2 : (m : Int) < (f.ins.length : Int) := by omega
                have l3 : (f.ins.length : Int) - 1 = (m : Int) := by omega
                have HL3 := hid l3
                have u4 := blk_cell (o := 4) (v := Value.slice (some ⟨bi, oi, none⟩) f.ins.length ci) HB2v.out rfl
                have ul := blk_lt HB2v.out
                clear l3 hm hlt2 ha
                by_cases hop : i.op = 26 ∨ i.op = 29 ∨ i.op = 30
                · have HFE := hid (fnE_ok HHD.out hall (by rw [hlast]; exact decide_eq_true hop))
                  have hc3 : (i.op != 26) = false ∨ ((i.op != 26) = true ∧ (i.op != 29) = false) ∨ ((i.op != 26) = true ∧ (i.op != 29) = true ∧ (i.op != 30) = false) := by
                    rcases hop with h | h | h <;> rw [h] <;> simp
                  clear hall hlast hop
                  rcases hc3 with o1 | ⟨o1, o2⟩ | ⟨o1, o2, o3⟩
                  all_goals
                    go_wp2
                    refine snd_round hlt (all_succ HALL.out ?_) ?_
                    · intro g hg
                      rw [HFK.out] at hg
                      injection hg with hg
                      rw [← hg, HFE.out]
                    · exact Kp.trans (HKS0.out.trans (HK2.out.trans (HKH.out.trans HK3.out))) HKT3.out
                · have hfe := fnE_last HHD.out hall (by rw [hlast]; exact decide_eq_false hop)
                  rw [HL3.out] at hfe
                  have HR := hid (sound_fn HNE.out HBD.out HTX.out (fun j g hj hg => HALL.out j hj g hg) HFK.out hfe (by decide))
                  have o1 : (i.op != 26) = true := by simp; omega
                  have o2 : (i.op != 29) = true := by simp; omega
                  have o3 : (i.op != 30) = true := by simp; omega
                  have y0 := blk_cell (o := 0) (v := Value.int IntKind.i64 0) HB1v.out rfl
                  have y1 := blk_cell (o := 1) (v := Value.int IntKind.i64 0) HB1v.out rfl
                  have y2 := blk_cell (o := 2) (v := Value.int IntKind.i64 0) HB1v.out rfl
                  have yf0 := blk_free (o := 0) HB1v.out
                  have yf1 := blk_free (o := 1) HB1v.out
                  have yf2 := blk_free (o := 2) HB1v.out
                  clear hall hlast hop hfe
                  go_wp2
                  obtain ⟨z0, z1, z2, z3⟩ := snd_end HB1v.out HLE.out HKX.out (.int .i64 11) (.int .i64 k) (.int .i64 m)
                  exact bodyPost_ret (v := .agg #[.int .i64 11, .int .i64 k, .int .i64 m]) (by simp [results, Try.results18, go_sem, z0, z1, z2]) rfl ⟨by rw [HR.out], z3⟩
          · have HHD := hid hh
            have z9 : (headM k f != 0) = true := by simpa using hh
            have HR := hid (sound_fn HNE.out HBD.out HTX.out (fun j g hj hg => HALL.out j hj g hg) HFK.out (fnE_head hh) hh)
            clear hh
            go_wp2_with (go_at_call 35; go_must (refine (head_any k f Ai ci HNS.out _).mono ?_); rintro e wh ⟨rfl, hkh⟩; have HB9 := hid ((hkh.block _ (blk_lt HB1t.out)).trans HB1t.out); have y0 := blk_cell (o := 0) (v := Value.int IntKind.i64 0) HB9.out rfl; have y1 := blk_cell (o := 1) (v := Value.int IntKind.i64 0) HB9.out rfl; have y2 := blk_cell (o := 2) (v := Value.int IntKind.i64 0) HB9.out rfl; have yf0 := blk_free (o := 0) HB9.out; have yf1 := blk_free (o := 1) HB9.out; have yf2 := blk_free (o := 2) HB9.out; have HKH := hid hkh; clear hkh)
            obtain ⟨z0, z1, z2, z3⟩ := snd_end HB9.out HLE.out (HKU.out.trans (HK2.out.trans HKH.out)) (.int .i64 (headM k f)) (.int .i64 k) (.int .i64 (-1))
            exact bodyPost_ret (v := .agg #[.int .i64 (headM k f), .int .i64 k, .int .i64 (-1)]) (by simp [results, Try.results18, go_sem, z0, z1, z2]) rfl ⟨by rw [HR.out], z3⟩
        · have i1 : ¬ (k : Int) < (c.funcs.length : Int) := by omega
          obtain rfl : k = c.funcs.length := by omega
          have HR := hid (sound_ok HNE.out HBD.out HTX.out (fun j g hg => HALL.out j (by
            rcases Nat.lt_or_ge j c.funcs.length with h | h
            · exact h
            · rw [List.getElem?_eq_none h] at hg; cases hg) g hg))
          have y0 := blk_cell (o := 0) (v := Value.int IntKind.i64 0) HB1s.out rfl
          have y1 := blk_cell (o := 1) (v := Value.int IntKind.i64 0) HB1s.out rfl
          have y2 := blk_cell (o := 2) (v := Value.int IntKind.i64 0) HB1s.out rfl
          have yf0 := blk_free (o := 0) HB1s.out
          have yf1 := blk_free (o := 1) HB1s.out
          have yf2 := blk_free (o := 2) HB1s.out
          clear hlt hk
          go_wp2
          obtain ⟨z0, z1, z2, z3⟩ := snd_end HB1s.out HLE.out HKU.out (.int .i64 0) (.int .i64 0) (.int .i64 0)
          exact bodyPost_ret (v := .agg #[.int .i64 0, .int .i64 0, .int .i64 0]) (by simp [results, Try.results18, go_sem, z0, z1, z2]) rfl ⟨by rw [HR.out], z3⟩
end Go.Proofs.Ytgonekmmbeedeaa
