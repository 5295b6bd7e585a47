/-
  Package guard: Guard. Condition: the code lies within the reach.
-/
import Derived.Test.YtgonekmmbeedeaaGrw
namespace Go.Proofs.Ytgonekmmbeedeaa.Sq
open Go.RowKit
set_option linter.unusedVariables false
set_option linter.unusedSimpArgs false

/-- What Guard answers. -/
def GuardV (c : CodeM) (s : Value) : Prop :=
  ((soundM c).1 ≠ 0 ∧ s = fixV (soundM c).1 (soundM c).2.1 (soundM c).2.2) ∨ ((soundM c).1 = 0 ∧ GuardC c ∧ s = fixV 0 0 0) ∨ ((soundM c).1 = 0 ∧ ¬ GuardC c ∧ ∃ a b : Int, s = fixV 19 a b)
theorem fix_cells {w : World} {b : Nat} {x0 x1 x2 : Value} (h : w.heap[b]? = some (.cells #[x0, x1, x2] 41 (0, 0))) (v0 v1 v2 : Value) :
    (((w.setCell ⟨b, 0, none⟩ v0).setCell ⟨b, 1, none⟩ v1).setCell ⟨b, 2, none⟩ v2).heap[b]? = some (.cells #[v0, v1, v2] 41 (0, 0)) := blk_set (blk_set (blk_set h _) _) _
theorem fix_at {w : World} {b : Nat} {x0 x1 x2 : Value} (h : w.heap[b]? = some (.cells #[x0, x1, x2] 41 (0, 0))) :
    (w.cell? ⟨b, 0, none⟩ = some x0 ∧ w.cell? ⟨b, 1, none⟩ = some x1 ∧ w.cell? ⟨b, 2, none⟩ = some x2) ∧ w.frozen? ⟨b, 0, none⟩ = false ∧ w.frozen? ⟨b, 1, none⟩ = false ∧ w.frozen? ⟨b, 2, none⟩ = false :=
  ⟨⟨blk_cell h rfl, blk_cell h rfl, blk_cell h rfl⟩, blk_free h, blk_free h, blk_free h⟩
set_option maxRecDepth 20000 in
set_option maxHeartbeats 8000000 in
theorem guard_any (w : World) (v : Value) (c : CodeM) (h : RdCode w v c) : Calls Try.prog 19 #[v] w fun e w' => (∃ s, e = .returned s ∧ GuardV c s) ∧ Kp w w' := by
  obtain ⟨lf, lt, rfl, hf, hfl, ht, htl⟩ := h
  obtain ⟨Af, cf, rfl, _⟩ := hf.form
  obtain ⟨At, ct, rfl, _⟩ := ht.form
  have HKA := hid (show Kp w ((w.alloc (.cells #[.slice Af c.funcs.length cf, .slice At c.texts.length ct] 25)).alloc (.cells #[.int .i64 0, .int .i64 0, .int .i64 0] 41)) from ((Kp.refl _).alloc _).alloc _)
  have HS := hid (sound_any ((w.alloc (.cells #[.slice Af c.funcs.length cf, .slice At c.texts.length ct] 25)).alloc (.cells #[.int .i64 0, .int .i64 0, .int .i64 0] 41)) (.agg #[.slice Af c.funcs.length cf, .slice At c.texts.length ct]) c ⟨_, _, rfl, hf.kp CeFn.kp HKA.out, hfl, ht.kp CeStr.kp HKA.out, htl⟩)
  have HR := hid (by have h := blk_new (w.alloc (.cells #[.slice Af c.funcs.length cf, .slice At c.texts.length ct] 25)) (.cells #[.int .i64 0, .int .i64 0, .int .i64 0] 41); rw [World.size_alloc] at h; exact h)
  have HB0 := hid (blk_old (blk_new w (.cells #[.slice Af c.funcs.length cf, .slice At c.texts.length ct] 25)) (.cells #[.int .i64 0, .int .i64 0, .int .i64 0] 41))
  have HF := hid hf; have HFL := hid hfl
  obtain ⟨s0, s1, s2, hs⟩ : ∃ s0 s1 s2, soundM c = (s0, s1, s2) := ⟨_, _, _, rfl⟩
  have HSM := hid hs
  rw [hs] at HS
  unfold fixV at HS
  dsimp only at HS
  clear hf hfl ht htl hs
  have HN1 := hid (show w.heap.size ≤ w.heap.size + 1 from Nat.le_succ _)
  go_enter Try.func19, Try.ntmps19
  go_upto_region 1 with fail
  generalize ((w.alloc (.cells #[.slice Af c.funcs.length cf, .slice At c.texts.length ct] 25)).alloc (.cells #[.int .i64 0, .int .i64 0, .int .i64 0] 41)) = W at HKA HS HR HB0 ⊢
  obtain ⟨n1, hn1⟩ : ∃ n, w.heap.size + 1 = n := ⟨_, rfl⟩
  rw [hn1] at HR HN1 ⊢
  clear hn1
  have hkw := HKA.out.le
  generalize hn0 : w.heap.size = n0 at HB0 HN1 ⊢
  have HW0 := hid hn0
  clear hn0 hkw
  have z0 := blk_cell (o := 0) (v := .slice Af c.funcs.length cf) HB0.out rfl
  have z1 := blk_cell (o := 1) (v := .slice At c.texts.length ct) HB0.out rfl
  have zl := blk_lt HB0.out
  by_cases hq : s0 = 0
  · subst hq
    obtain ⟨_, _, _, _, hfs, hqe⟩ := sound_inv (c := c) (by rw [HSM.out])
    have he : ((0 : Int), s1, s2) = (0, 0, 0) := HSM.out.symm.trans hqe
    injection he with _ he
    injection he with he1 he2
    subst he1; subst he2
    have HFS := hid hfs
    clear hfs hqe
    go_upto_region 4 with (go_at_call 18; go_must (refine HS.out.mono ?_); rintro e w1 ⟨rfl, hk1⟩; have HK1 := hid (HKA.out.trans hk1); have HR1 := hid ((hk1.block _ (blk_lt HR.out)).trans HR.out); have HC1 := hid ((hk1.block _ (blk_lt HB0.out)).trans HB0.out); clear hk1)
    have HR3 := hid (blk_old HR1.out (.cells #[.int .i64 0, .int .i64 0, .int .i64 0] 41))
    have HC3 := hid (blk_old HC1.out (.cells #[.int .i64 0, .int .i64 0, .int .i64 0] 41))
    have HK3 := hid (HK1.out.alloc (.cells #[.int .i64 0, .int .i64 0, .int .i64 0] 41))
    generalize (w1.alloc (.cells #[.int .i64 0, .int .i64 0, .int .i64 0] 41)) = W3 at HR3 HC3 HK3 ⊢
    generalize w1.heap.size = n3
    clear z0 z1 zl HR1 HC1 HK1
    have z0 := blk_cell (o := 0) (v := .slice Af c.funcs.length cf) HC3.out rfl
    have zl := blk_lt HC3.out
    go_wp2_with fail
    clear z0 zl
    go_loopw [17] (fun x wr => ∃ k : Nat, k ≤ c.funcs.length ∧ x = .int .i64 (k : Int) ∧ (∀ j f, j < k → c.funcs[j]? = some f → GuardF f.ins) ∧ Kp W3 wr) (fun x _ => c.funcs.length - (intOf x).toNat)
    case atStart => exact ⟨0, Nat.zero_le _, rfl, (fun j f hj => by omega), Kp.refl _⟩
    case round =>
      obtain ⟨k, hk, rfl, hall, hkr⟩ := hrel
      have HALL := hid hall; have HKR := hid hkr
      by_cases hlt : k < c.funcs.length
      · have i1 : (k : Int) < (c.funcs.length : Int) := by omega
        have k1 : IntKind.i64.wrap ((k : Int) + 1) = (k : Int) + 1 := by have := HFL.out; rw [IntKind.wrap_i64]; omega
        obtain ⟨f, hf⟩ : ∃ f, c.funcs[k]? = some f := ⟨_, List.getElem?_eq_getElem hlt⟩
        obtain ⟨b, off, rfl, hbl, lins, p0, p1, p2, p3, p4, _, _, _, _, hins, _⟩ := at_fn (HF.out.kp CeFn.kp (HK3.out.trans hkr)) hf
        obtain ⟨A, ci, rfl, _⟩ := hins.form
        have hfk := HFS.out k f hf
        have hfl2 : f.ins.length ≤ 20000 := (head_ok hfk.1).2.2.2.2.2.2.2.2.2
        have HFK := hid hf
        have HBF := hid (blk_new wr (.cells #[.string f.name, .int .i64 f.params, .int .i64 f.slots, .int .i64 f.caps, .slice A f.ins.length ci] 45))
        have HKF := hid ((Kp.refl wr).alloc (.cells #[.string f.name, .int .i64 f.params, .int .i64 f.slots, .int .i64 f.caps, .slice A f.ins.length ci] 45))
        have HIN := hid (hins.kp CeIns.kp HKF.out)
        clear hf hins hfk hall hkr
        go_upto_region 7 with fail
        generalize (wr.alloc (.cells #[.string f.name, .int .i64 f.params, .int .i64 f.slots, .int .i64 f.caps, .slice A f.ins.length ci] 45)) = W6 at HBF HKF HIN ⊢
        obtain ⟨nf, hnf⟩ : ∃ n, wr.heap.size = n := ⟨_, rfl⟩
        rw [hnf] at HBF ⊢
        clear hnf p0 p1 p2 p3 p4 hbl
        have y0 := blk_cell (o := 0) (v := .string f.name) HBF.out rfl
        have y1 := blk_cell (o := 1) (v := .int .i64 f.params) HBF.out rfl
        have y2 := blk_cell (o := 2) (v := .int .i64 f.slots) HBF.out rfl
        have y3 := blk_cell (o := 3) (v := .int .i64 f.caps) HBF.out rfl
        have y4 := blk_cell (o := 4) (v := .slice A f.ins.length ci) HBF.out rfl
        have yl := blk_lt HBF.out
        have htg := targets_any W6 f A ci HIN.out (by omega)
        go_upto_region 8 with (go_at_call 37; refine htg.mono ?_; rintro e w7 ⟨⟨B, rfl, hgm⟩, hk7⟩; have HGM := hid hgm; have HK7 := hid hk7; have HB7 := hid ((hk7.block _ (blk_lt HBF.out)).trans HBF.out); clear hgm hk7)
        clear y0 y1 y2 y3 y4 yl htg
        have y4 := blk_cell (o := 4) (v := .slice A f.ins.length ci) HB7.out rfl
        have yl := blk_lt HB7.out
        go_wp2_with fail
        clear y4 yl
        obtain ⟨wo, hwo⟩ : ∃ x, x = wr := ⟨_, rfl⟩
        subst hwo
        go_loopw [27] (fun x wr => ∃ p : Nat, p ≤ f.ins.length ∧ x = .int .i64 (p : Int) ∧ (∀ j i, j < p → f.ins[j]? = some i → RightP f.ins j i) ∧ Kp w7 wr) (fun x _ => f.ins.length - (intOf x).toNat)
        case atStart => exact ⟨0, Nat.zero_le _, rfl, (fun j i hj => by omega), Kp.refl _⟩
        case round =>
          obtain ⟨p, hp, rfl, hri, hkp⟩ := hrel
          have HRI := hid hri; have HKP := hid hkp
          by_cases hpl : p < f.ins.length
          · have j1 : (p : Int) < (f.ins.length : Int) := by omega
            have kp1 : IntKind.i64.wrap ((p : Int) + 1) = (p : Int) + 1 := IntWalk.i64_in _ (by omega)
            obtain ⟨i, hi⟩ : ∃ i, f.ins[p]? = some i := ⟨_, List.getElem?_eq_getElem hpl⟩
            have HI := hid hi
            have HB8 := hid ((hkp.block _ (blk_lt HB7.out)).trans HB7.out)
            have y0 := blk_cell (o := 0) (v := .string f.name) HB8.out rfl
            have y1 := blk_cell (o := 1) (v := .int .i64 f.params) HB8.out rfl
            have y2 := blk_cell (o := 2) (v := .int .i64 f.slots) HB8.out rfl
            have y3 := blk_cell (o := 3) (v := .int .i64 f.caps) HB8.out rfl
            have y4 := blk_cell (o := 4) (v := .slice A f.ins.length ci) HB8.out rfl
            have yl := blk_lt HB8.out
            obtain ⟨r, hr⟩ : ∃ r : Bool, r = true ↔ RightP f.ins p i := by
              by_cases hx : RightP f.ins p i
              · exact ⟨true, by simp [hx]⟩
              · exact ⟨false, by simp [hx]⟩
            have hrt := right_any wr f A ci ((HIN.out.kp CeIns.kp HK7.out).kp CeIns.kp hkp) (by omega) p i hi B (HGM.out.kp hkp) r hr
            have HRR := hid hr
            clear hri hkp hi hr
            cases r with
            | true =>
              go_wp2_with (go_at_call 38; refine hrt.mono ?_; rintro e w9 ⟨rfl, hk9⟩; have HK9 := hid (HKP.out.trans hk9); clear hk9)
              exact ⟨⟨p + 1, hpl, by congr 1, (fun j x hj hx => by
                rcases Nat.lt_or_ge j p with h1 | h1
                · exact HRI.out j x h1 hx
                · obtain rfl : j = p := by omega
                  rw [HI.out] at hx
                  injection hx with hx
                  subst hx
                  exact HRR.out.1 (by trivial)), HK9.out⟩, by simp only [intOf, Int.toNat_natCast]; omega⟩
            | false =>
              have HNG := hid (show ¬ GuardC c from fun hg => by have := HRR.out.2 (hg k f HFK.out p i HI.out); cases this)
              go_upto_region 12 with (go_at_call 38; refine hrt.mono ?_; rintro e w9 ⟨rfl, hk9⟩; have HK9 := hid (HK3.out.trans (HKR.out.trans (HKF.out.trans (HK7.out.trans (HKP.out.trans hk9))))); have HR9 := hid (((HKR.out.trans (HKF.out.trans (HK7.out.trans (HKP.out.trans hk9)))).block _ (blk_lt HR3.out)).trans HR3.out); clear hk9)
              obtain ⟨⟨x0, x1, x2⟩, f0, f1, f2⟩ := fix_at HR9.out
              have xl := blk_lt HR9.out
              clear y0 y1 y2 y3 y4 yl hrt
              go_wp2
              obtain ⟨⟨r0, r1, r2⟩, _⟩ := fix_at (fix_cells HR9.out (.int .i64 19) (.int .i64 (k : Int)) (.int .i64 (p : Int)))
              refine bodyPost_ret (v := .agg #[.int .i64 19, .int .i64 (k : Int), .int .i64 (p : Int)]) (by simp [results, Try.results19, go_sem, r0, r1, r2]) rfl ?_
              have hle : w.heap.size ≤ n1 := by have := HN1.out; have := HW0.out; omega
              exact ⟨⟨_, rfl, .inr (.inr ⟨by rw [HSM.out], HNG.out, _, _, rfl⟩)⟩, ((HK9.out.setCell (p := ⟨n1, 0, none⟩) hle _).setCell (p := ⟨n1, 1, none⟩) hle _).setCell (p := ⟨n1, 2, none⟩) hle _⟩
          · have j1 : ¬ (p : Int) < (f.ins.length : Int) := by omega
            clear hri hkp
            go_wp2
            exact ⟨⟨k + 1, hlt, by congr 1, (fun j g hj hg => by
              rcases Nat.lt_or_ge j k with h1 | h1
              · exact HALL.out j g h1 hg
              · obtain rfl : j = k := by omega
                rw [HFK.out] at hg
                injection hg with hg
                subst hg
                exact fun q i hi => HRI.out q i (by have := (List.getElem?_eq_some_iff.1 hi).1; omega) hi), HKR.out.trans (HKF.out.trans (HK7.out.trans HKP.out))⟩, by simp only [intOf, Int.toNat_natCast]; omega⟩
      · have i1 : ¬ (k : Int) < (c.funcs.length : Int) := by omega
        have HG := hid (show GuardC c from fun j f hf => hall j f (by have := (List.getElem?_eq_some_iff.1 hf).1; omega) hf)
        have HR9 := hid ((hkr.block _ (blk_lt HR3.out)).trans HR3.out)
        obtain ⟨⟨x0, x1, x2⟩, f0, f1, f2⟩ := fix_at HR9.out
        have xl := blk_lt HR9.out
        clear hall hkr
        go_wp2
        obtain ⟨⟨r0, r1, r2⟩, _⟩ := fix_at (fix_cells HR9.out (.int .i64 0) (.int .i64 0) (.int .i64 0))
        refine bodyPost_ret (v := .agg #[.int .i64 0, .int .i64 0, .int .i64 0]) (by simp [results, Try.results19, go_sem, r0, r1, r2]) rfl ?_
        have hle : w.heap.size ≤ n1 := by have := HN1.out; have := HW0.out; omega
        exact ⟨⟨_, rfl, .inr (.inl ⟨by rw [HSM.out], HG.out, rfl⟩)⟩, (((HK3.out.trans HKR.out).setCell (p := ⟨n1, 0, none⟩) hle _).setCell (p := ⟨n1, 1, none⟩) hle _).setCell (p := ⟨n1, 2, none⟩) hle _⟩
  · have t0 : (s0 == 0) = false := by simp [hq]
    have t0' : (s0 != 0) = true := by simp [hq]
    have HQ := hid hq
    clear hq
    go_upto_region 3 with (go_at_call 18; go_must (refine HS.out.mono ?_); rintro e w1 ⟨rfl, hk1⟩; have HK1 := hid (HKA.out.trans hk1); have HR1 := hid ((hk1.block _ (blk_lt HR.out)).trans HR.out); clear hk1)
    have HFX := hid (blk_new w1 (.cells #[.int .i64 s0, .int .i64 s1, .int .i64 s2] 41))
    have HR3 := hid (blk_old HR1.out (.cells #[.int .i64 s0, .int .i64 s1, .int .i64 s2] 41))
    have HK3 := hid (HK1.out.alloc (.cells #[.int .i64 s0, .int .i64 s1, .int .i64 s2] 41))
    generalize (w1.alloc (.cells #[.int .i64 s0, .int .i64 s1, .int .i64 s2] 41)) = W3 at HFX HR3 HK3 ⊢
    generalize w1.heap.size = n4 at HFX ⊢
    clear z0 z1 zl
    obtain ⟨⟨x0, x1, x2⟩, f0, f1, f2⟩ := fix_at HR3.out
    have xl := blk_lt HR3.out
    obtain ⟨⟨y0, y1, y2⟩, _⟩ := fix_at HFX.out
    have yl := blk_lt HFX.out
    go_wp2
    obtain ⟨⟨r0, r1, r2⟩, _⟩ := fix_at (fix_cells HR3.out (.int .i64 s0) (.int .i64 s1) (.int .i64 s2))
    refine bodyPost_ret (v := .agg #[.int .i64 s0, .int .i64 s1, .int .i64 s2]) (by simp [results, Try.results19, go_sem, r0, r1, r2]) rfl ?_
    have hle : w.heap.size ≤ n1 := by have := HN1.out; have := HW0.out; omega
    exact ⟨⟨_, rfl, .inl ⟨by rw [HSM.out]; exact HQ.out, by rw [HSM.out]; rfl⟩⟩, ((HK3.out.setCell (p := ⟨n1, 0, none⟩) hle _).setCell (p := ⟨n1, 1, none⟩) hle _).setCell (p := ⟨n1, 2, none⟩) hle _⟩
end Go.Proofs.Ytgonekmmbeedeaa.Sq
