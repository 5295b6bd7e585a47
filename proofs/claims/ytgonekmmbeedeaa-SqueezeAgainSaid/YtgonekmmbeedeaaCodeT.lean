/-
  The laws' own sameCode. Condition: what comes in lies within the reach.
-/
import Derived.Test.YtgonekmmbeedeaaCodeS
import Derived.Test.YtgonekmmbeedeaaRegF
namespace Go.Proofs.Ytgonekmmbeedeaa
open Go.RowKit
set_option linter.unusedVariables false
set_option linter.unusedSimpArgs false

set_option maxRecDepth 20000 in
set_option maxHeartbeats 16000000 in
theorem same_eq (w : World) (va vb : Value) (c : CodeM) (ha : RdCode w va c) (hb : RdCode w vb c) : Calls Try.prog 13 #[va, vb] w fun e w' => e = .returned (.bool true) ∧ Kp w w' := by
  obtain ⟨lf, lt, rfl, hf, hfl, ht, htl⟩ := ha
  obtain ⟨mf, mt, rfl, gf, _, gt, _⟩ := hb
  have HF := hid hf
  have HT := hid ht
  have GF := hid gf
  have GT := hid gt
  have HFL := hid hfl
  have HTL := hid htl
  obtain ⟨Af, cf, rfl, _⟩ := hf.form
  obtain ⟨At, ct, rfl, _⟩ := ht.form
  obtain ⟨Bf, df, rfl, _⟩ := gf.form
  obtain ⟨Bt, dt, rfl, _⟩ := gt.form
  clear hf ht gf gt hfl htl
  have HK0 := hid (show Kp w ((w.alloc (.cells #[.slice Af c.funcs.length cf, .slice At c.texts.length ct] 25)).alloc (.cells #[.slice Bf c.funcs.length df, .slice Bt c.texts.length dt] 25)) from ((Kp.refl _).alloc _).alloc _)
  have HB0 := hid (blk_old (blk_new w (.cells #[.slice Af c.funcs.length cf, .slice At c.texts.length ct] 25)) (.cells #[.slice Bf c.funcs.length df, .slice Bt c.texts.length dt] 25))
  have HB1 : Hid (((w.alloc (.cells #[.slice Af c.funcs.length cf, .slice At c.texts.length ct] 25)).alloc (.cells #[.slice Bf c.funcs.length df, .slice Bt c.texts.length dt] 25)).heap[w.heap.size + 1]? = some (.cells #[.slice Bf c.funcs.length df, .slice Bt c.texts.length dt] 25 (0, 0))) := hid (by have h := blk_new (w.alloc (.cells #[.slice Af c.funcs.length cf, .slice At c.texts.length ct] 25)) (.cells #[.slice Bf c.funcs.length df, .slice Bt c.texts.length dt] 25); rw [World.size_alloc] at h; exact h)
  go_enter Try.func13, Try.ntmps13
  go_wp2_with fail
  generalize ((w.alloc (.cells #[.slice Af c.funcs.length cf, .slice At c.texts.length ct] 25)).alloc (.cells #[.slice Bf c.funcs.length df, .slice Bt c.texts.length dt] 25)) = W at HK0 HB0 HB1 ⊢
  generalize w.heap.size + 1 = n1 at HB1 ⊢
  generalize w.heap.size = n0 at HB0 ⊢
  go_loopw [5] (fun x wr => ∃ k : Nat, k ≤ c.texts.length ∧ x = .int .i64 (k : Int) ∧ Kp W wr) (fun x _ => c.texts.length - (intOf x).toNat)
  case atStart => exact ⟨0, Nat.zero_le _, rfl, Kp.refl _⟩
  case round =>
    obtain ⟨k, hk, rfl, hkr⟩ := hrel
    have HKR := hid hkr
    have b0 := (hkr.block _ (blk_lt HB0.out)).trans HB0.out
    have b1 := (hkr.block _ (blk_lt HB1.out)).trans HB1.out
    have l0 := blk_lt b0
    have l1 := blk_lt b1
    have p0 := blk_cell (o := 0) (v := Value.slice Af c.funcs.length cf) b0 rfl
    have p1 := blk_cell (o := 1) (v := Value.slice At c.texts.length ct) b0 rfl
    have q0 := blk_cell (o := 0) (v := Value.slice Bf c.funcs.length df) b1 rfl
    have q1 := blk_cell (o := 1) (v := Value.slice Bt c.texts.length dt) b1 rfl
    clear hkr b0 b1
    by_cases hlt : k < c.texts.length
    · have i1 : (k : Int) < (c.texts.length : Int) := by omega
      have k1 : IntKind.i64.wrap ((k : Int) + 1) = (k : Int) + 1 := by have := HTL.out; rw [IntKind.wrap_i64]; omega
      obtain ⟨t, ht⟩ : ∃ t, c.texts[k]? = some t := ⟨_, List.getElem?_eq_getElem hlt⟩
      obtain ⟨b, off, rfl, hbl, e0, _⟩ := at_str (HT.out.kp CeStr.kp (HK0.out.trans HKR.out)) ht
      obtain ⟨b', off', rfl, hbl', f0, _⟩ := at_str (GT.out.kp CeStr.kp (HK0.out.trans HKR.out)) ht
      clear ht
      go_upto_region 6 with fail
      refine wp_region_kp [[], [0], [], [1, 2], [3], [], [5], [], [6, 7], [8], [4, 9]] (fun u => Kp wr u)
        [fun (y : Value) (u : World) => y = (.pointer (some ⟨n0, 1, none⟩) : Value),
         fun (y : Value) (u : World) => y = (.slice (some ⟨b, off, none⟩) c.texts.length ct : Value),
         fun (y : Value) (u : World) => y = (.int .i64 (k : Int) : Value),
         fun (y : Value) (u : World) => y = (.pointer (some ⟨b, off + k, none⟩) : Value),
         fun (y : Value) (u : World) => y = (.string t : Value),
         fun (y : Value) (u : World) => y = (.pointer (some ⟨n1, 1, none⟩) : Value),
         fun (y : Value) (u : World) => y = (.slice (some ⟨b', off', none⟩) c.texts.length dt : Value),
         fun (y : Value) (u : World) => y = (.int .i64 (k : Int) : Value),
         fun (y : Value) (u : World) => y = (.pointer (some ⟨b', off' + k, none⟩) : Value),
         fun (y : Value) (u : World) => y = (.string t : Value),
         fun (y : Value) (u : World) => y = (.bool false : Value)]
        (by kernel_rfl) (by kernel_rfl) (by kernel_rfl) (by kernel_rfl) ((Kp.refl _).drew) (fun _ _ hk h => h.trans hk) ⟨fun _ _ _ _ h => h, fun _ _ _ _ h => h, fun _ _ _ _ h => h, fun _ _ _ _ h => h, fun _ _ _ _ h => h, fun _ _ _ _ h => h, fun _ _ _ _ h => h, fun _ _ _ _ h => h, fun _ _ _ _ h => h, fun _ _ _ _ h => h, fun _ _ _ _ h => h, trivial⟩ ⟨?sb0, ?sb1, ?sb2, ?sb3, ?sb4, ?sb5, ?sb6, ?sb7, ?sb8, ?sb9, ?sb10, trivial⟩ ?hEb
      case sb0 =>
        intro x u hg hd K hK
        clear hd
        refine ⟨?_⟩
        simp only [putsFrom, Act.put, List.setIfInBounds_toArray, List.set_cons_zero, List.set_cons_succ, Nat.reduceAdd] at hK ⊢
        go_simp
        exact hK.out _ _ (Kp.refl _) rfl
      case sb1 =>
        intro x u hg hd K hK
        have d0 : (x 0) = .pointer (some ⟨n0, 1, none⟩) := And.left hd
        clear hd
        have q0 := cell_kp hg l0 p1
        refine ⟨?_⟩
        simp only [putsFrom, Act.put, List.setIfInBounds_toArray, List.set_cons_zero, List.set_cons_succ, Nat.reduceAdd, d0] at hK ⊢
        go_simp
        exact hK.out _ _ (Kp.refl _) rfl
      case sb2 =>
        intro x u hg hd K hK
        clear hd
        refine ⟨?_⟩
        simp only [putsFrom, Act.put, List.setIfInBounds_toArray, List.set_cons_zero, List.set_cons_succ, Nat.reduceAdd] at hK ⊢
        go_simp
        exact hK.out _ _ (Kp.refl _) rfl
      case sb3 =>
        intro x u hg hd K hK
        have d1 : (x 1) = .slice (some ⟨b, off, none⟩) c.texts.length ct := And.left hd
        have d2 : (x 2) = .int .i64 (k : Int) := And.left (And.right hd)
        clear hd
        refine ⟨?_⟩
        simp only [putsFrom, Act.put, List.setIfInBounds_toArray, List.set_cons_zero, List.set_cons_succ, Nat.reduceAdd, d1, d2] at hK ⊢
        go_simp
        exact hK.out _ _ (Kp.refl _) rfl
      case sb4 =>
        intro x u hg hd K hK
        have d3 : (x 3) = .pointer (some ⟨b, off + k, none⟩) := And.left hd
        clear hd
        have q0 := cell_kp hg hbl e0
        refine ⟨?_⟩
        simp only [putsFrom, Act.put, List.setIfInBounds_toArray, List.set_cons_zero, List.set_cons_succ, Nat.reduceAdd, d3] at hK ⊢
        go_simp
        exact hK.out _ _ (Kp.refl _) rfl
      case sb5 =>
        intro x u hg hd K hK
        clear hd
        refine ⟨?_⟩
        simp only [putsFrom, Act.put, List.setIfInBounds_toArray, List.set_cons_zero, List.set_cons_succ, Nat.reduceAdd] at hK ⊢
        go_simp
        exact hK.out _ _ (Kp.refl _) rfl
      case sb6 =>
        intro x u hg hd K hK
        have d5 : (x 5) = .pointer (some ⟨n1, 1, none⟩) := And.left hd
        clear hd
        have q0 := cell_kp hg l1 q1
        refine ⟨?_⟩
        simp only [putsFrom, Act.put, List.setIfInBounds_toArray, List.set_cons_zero, List.set_cons_succ, Nat.reduceAdd, d5] at hK ⊢
        go_simp
        exact hK.out _ _ (Kp.refl _) rfl
      case sb7 =>
        intro x u hg hd K hK
        clear hd
        refine ⟨?_⟩
        simp only [putsFrom, Act.put, List.setIfInBounds_toArray, List.set_cons_zero, List.set_cons_succ, Nat.reduceAdd] at hK ⊢
        go_simp
        exact hK.out _ _ (Kp.refl _) rfl
      case sb8 =>
        intro x u hg hd K hK
        have d6 : (x 6) = .slice (some ⟨b', off', none⟩) c.texts.length dt := And.left hd
        have d7 : (x 7) = .int .i64 (k : Int) := And.left (And.right hd)
        clear hd
        refine ⟨?_⟩
        simp only [putsFrom, Act.put, List.setIfInBounds_toArray, List.set_cons_zero, List.set_cons_succ, Nat.reduceAdd, d6, d7] at hK ⊢
        go_simp
        exact hK.out _ _ (Kp.refl _) rfl
      case sb9 =>
        intro x u hg hd K hK
        have d8 : (x 8) = .pointer (some ⟨b', off' + k, none⟩) := And.left hd
        clear hd
        have q0 := cell_kp hg hbl' f0
        refine ⟨?_⟩
        simp only [putsFrom, Act.put, List.setIfInBounds_toArray, List.set_cons_zero, List.set_cons_succ, Nat.reduceAdd, d8] at hK ⊢
        go_simp
        exact hK.out _ _ (Kp.refl _) rfl
      case sb10 =>
        intro x u hg hd K hK
        have d4 : (x 4) = .string t := And.left hd
        have d9 : (x 9) = .string t := And.left (And.right hd)
        clear hd
        refine ⟨?_⟩
        simp only [putsFrom, Act.put, List.setIfInBounds_toArray, List.set_cons_zero, List.set_cons_succ, Nat.reduceAdd, d4, d9] at hK ⊢
        go_simp
        exact hK.out _ _ (Kp.refl _) rfl
      intro x u hg he
      have d0 : (x 0) = .pointer (some ⟨n0, 1, none⟩) := And.left he
      have d1 : (x 1) = .slice (some ⟨b, off, none⟩) c.texts.length ct := And.left (And.right he)
      have d2 : (x 2) = .int .i64 (k : Int) := And.left (And.right (And.right he))
      have d3 : (x 3) = .pointer (some ⟨b, off + k, none⟩) := And.left (And.right (And.right (And.right he)))
      have d4 : (x 4) = .string t := And.left (And.right (And.right (And.right (And.right he))))
      have d5 : (x 5) = .pointer (some ⟨n1, 1, none⟩) := And.left (And.right (And.right (And.right (And.right (And.right he)))))
      have d6 : (x 6) = .slice (some ⟨b', off', none⟩) c.texts.length dt := And.left (And.right (And.right (And.right (And.right (And.right (And.right he))))))
      have d7 : (x 7) = .int .i64 (k : Int) := And.left (And.right (And.right (And.right (And.right (And.right (And.right (And.right he)))))))
      have d8 : (x 8) = .pointer (some ⟨b', off' + k, none⟩) := And.left (And.right (And.right (And.right (And.right (And.right (And.right (And.right (And.right he))))))))
      have d9 : (x 9) = .string t := And.left (And.right (And.right (And.right (And.right (And.right (And.right (And.right (And.right (And.right he)))))))))
      have d10 : (x 10) = .bool false := And.left (And.right (And.right (And.right (And.right (And.right (And.right (And.right (And.right (And.right (And.right he))))))))))
      clear he
      refine ⟨?_⟩
      simp only [putsFrom, Act.put, List.setIfInBounds_toArray, List.set_cons_zero, List.set_cons_succ, Nat.reduceAdd, d0, d1, d2, d3, d4, d5, d6, d7, d8, d9, d10]
      clear d0 d1 d2 d3 d4 d5 d6 d7 d8 d9 d10
      have HKG := hid hg
      clear hg
      go_wp2
      exact ⟨⟨k + 1, hlt, by congr 1, HKR.out.trans HKG.out⟩, by simp only [intOf, Int.toNat_natCast]; omega⟩
    · have i1 : ¬ (k : Int) < (c.texts.length : Int) := by omega
      obtain ⟨wo, hwo⟩ : ∃ x, x = wr := ⟨_, rfl⟩
      subst hwo
      clear hlt hk
      go_wp2_with fail
      clear p1 q1
      go_loopw [6] (fun x wr => ∃ k : Nat, k ≤ c.funcs.length ∧ x = .int .i64 (k : Int) ∧ Kp wo wr) (fun x _ => c.funcs.length - (intOf x).toNat)
      case atStart => exact ⟨0, Nat.zero_le _, rfl, Kp.refl _⟩
      case round =>
        clear p0 q0 l0 l1
        obtain ⟨ws, hws⟩ : ∃ x, x = wr := ⟨_, rfl⟩
        subst hws
        obtain ⟨k, hk, rfl, hks⟩ := hrel
        have HKS := hid hks
        have HKW := hid (HKR.out.trans hks)
        have b0 := (HKW.out.block _ (blk_lt HB0.out)).trans HB0.out
        have b1 := (HKW.out.block _ (blk_lt HB1.out)).trans HB1.out
        have l0 := blk_lt b0
        have l1 := blk_lt b1
        have p0 := blk_cell (o := 0) (v := Value.slice Af c.funcs.length cf) b0 rfl
        have q0 := blk_cell (o := 0) (v := Value.slice Bf c.funcs.length df) b1 rfl
        clear hks b0 b1
        by_cases hlt : k < c.funcs.length
        · have i1 : (k : Int) < (c.funcs.length : Int) := by omega
          have k1 : IntKind.i64.wrap ((k : Int) + 1) = (k : Int) + 1 := by have := HFL.out; rw [IntKind.wrap_i64]; omega
          obtain ⟨f, hf⟩ : ∃ f, c.funcs[k]? = some f := ⟨_, List.getElem?_eq_getElem hlt⟩
          obtain ⟨b, off, rfl, hbl, lins, e0, e1, e2, e3, e4, hns, _, _, _, hins, hil⟩ := at_fn (HF.out.kp CeFn.kp (HK0.out.trans HKW.out)) hf
          obtain ⟨b', off', rfl, hbl', mins, f0, f1, f2, f3, f4, _, _, _, _, gins, _⟩ := at_fn (GF.out.kp CeFn.kp (HK0.out.trans HKW.out)) hf
          have HI := hid hins
          have GI := hid gins
          obtain ⟨Ai, ci, rfl, _⟩ := hins.form
          obtain ⟨Bi, di, rfl, _⟩ := gins.form
          have HIL := hid hil
          clear hf hns hins gins hil
          go_upto_region 11 with fail
          go_region
          · have HK4 := hid (show Kp ws (((ws.alloc (Obj.cells #[.string f.name, .int .i64 f.params, .int .i64 f.slots, .int .i64 f.caps, .slice Ai f.ins.length ci] 45)).alloc (Obj.cells #[.string f.name, .int .i64 f.params, .int .i64 f.slots, .int .i64 f.caps, .slice Bi f.ins.length di] 45)).drew) from (((Kp.refl _).alloc _).alloc _).drew)
            have H7 : Hid ((((ws.alloc (Obj.cells #[.string f.name, .int .i64 f.params, .int .i64 f.slots, .int .i64 f.caps, .slice Ai f.ins.length ci] 45)).alloc (Obj.cells #[.string f.name, .int .i64 f.params, .int .i64 f.slots, .int .i64 f.caps, .slice Bi f.ins.length di] 45)).drew).heap[ws.heap.size]? = some (Obj.cells #[.string f.name, .int .i64 f.params, .int .i64 f.slots, .int .i64 f.caps, .slice Ai f.ins.length ci] 45)) := hid (blk_old (blk_new ws (Obj.cells #[.string f.name, .int .i64 f.params, .int .i64 f.slots, .int .i64 f.caps, .slice Ai f.ins.length ci] 45)) _)
            have H8 : Hid ((((ws.alloc (Obj.cells #[.string f.name, .int .i64 f.params, .int .i64 f.slots, .int .i64 f.caps, .slice Ai f.ins.length ci] 45)).alloc (Obj.cells #[.string f.name, .int .i64 f.params, .int .i64 f.slots, .int .i64 f.caps, .slice Bi f.ins.length di] 45)).drew).heap[(ws.heap.size + 1)]? = some (Obj.cells #[.string f.name, .int .i64 f.params, .int .i64 f.slots, .int .i64 f.caps, .slice Bi f.ins.length di] 45)) := hid (by have h := blk_new (ws.alloc (Obj.cells #[.string f.name, .int .i64 f.params, .int .i64 f.slots, .int .i64 f.caps, .slice Ai f.ins.length ci] 45)) (Obj.cells #[.string f.name, .int .i64 f.params, .int .i64 f.slots, .int .i64 f.caps, .slice Bi f.ins.length di] 45); rw [World.size_alloc] at h; exact h)
            generalize ((ws.alloc (Obj.cells #[.string f.name, .int .i64 f.params, .int .i64 f.slots, .int .i64 f.caps, .slice Ai f.ins.length ci] 45)).alloc (Obj.cells #[.string f.name, .int .i64 f.params, .int .i64 f.slots, .int .i64 f.caps, .slice Bi f.ins.length di] 45)).drew = W4 at HK4 H7 H8 ⊢
            generalize (ws.heap.size + 1) = m8 at H8 ⊢
            generalize ws.heap.size = m7 at H7 ⊢
            have x0 := blk_cell (o := 0) (v := Value.string f.name) H7.out rfl
            have x1 := blk_cell (o := 1) (v := Value.int .i64 f.params) H7.out rfl
            have x2 := blk_cell (o := 2) (v := Value.int .i64 f.slots) H7.out rfl
            have x3 := blk_cell (o := 3) (v := Value.int .i64 f.caps) H7.out rfl
            have x4 := blk_cell (o := 4) (v := Value.slice Ai f.ins.length ci) H7.out rfl
            have xl := blk_lt H7.out
            have y0 := blk_cell (o := 0) (v := Value.string f.name) H8.out rfl
            have y1 := blk_cell (o := 1) (v := Value.int .i64 f.params) H8.out rfl
            have y2 := blk_cell (o := 2) (v := Value.int .i64 f.slots) H8.out rfl
            have y3 := blk_cell (o := 3) (v := Value.int .i64 f.caps) H8.out rfl
            have y4 := blk_cell (o := 4) (v := Value.slice Bi f.ins.length di) H8.out rfl
            have yl := blk_lt H8.out
            clear e0 e1 e2 e3 e4 f0 f1 f2 f3 f4 p0 q0
            go_wp2_with fail
            clear x0 x1 x2 x3 x4 y0 y1 y2 y3 y4 xl yl
            go_loopw [9] (fun x wr => ∃ a : Nat, a ≤ f.ins.length ∧ x = .int .i64 (a : Int) ∧ Kp W4 wr) (fun x _ => f.ins.length - (intOf x).toNat)
            case atStart => exact ⟨0, Nat.zero_le _, rfl, Kp.refl _⟩
            case round =>
              obtain ⟨wt, hwt⟩ : ∃ x, x = wr := ⟨_, rfl⟩
              subst hwt
              obtain ⟨a, ha, rfl, hka⟩ := hrel
              have HKA := hid hka
              have b7 := (hka.block _ (blk_lt H7.out)).trans H7.out
              have b8 := (hka.block _ (blk_lt H8.out)).trans H8.out
              have l7 := blk_lt b7
              have l8 := blk_lt b8
              have x4 := blk_cell (o := 4) (v := Value.slice Ai f.ins.length ci) b7 rfl
              have y4 := blk_cell (o := 4) (v := Value.slice Bi f.ins.length di) b8 rfl
              clear hka b7 b8
              by_cases hlt2 : a < f.ins.length
              · have i2 : (a : Int) < (f.ins.length : Int) := by omega
                have a1 : IntKind.i64.wrap ((a : Int) + 1) = (a : Int) + 1 := by have := HIL.out; rw [IntKind.wrap_i64]; omega
                obtain ⟨i, hi⟩ : ∃ i, f.ins[a]? = some i := ⟨_, List.getElem?_eq_getElem hlt2⟩
                obtain ⟨bi, oi, rfl, hbi, r0, r1, r2, r3, r4, r5, _⟩ := at_ins (HI.out.kp CeIns.kp (HK4.out.trans HKA.out)) hi
                obtain ⟨bj, oj, rfl, hbj, s0, s1, s2, s3, s4, s5, _⟩ := at_ins (GI.out.kp CeIns.kp (HK4.out.trans HKA.out)) hi
                clear hi
                go_upto_region 17 with fail
                refine wp_region_kp [[], [0], [], [1, 2], [3], [], [5], [], [6, 7], [8], [4, 9]] (fun u => Kp wt u)
                  [fun (y : Value) (u : World) => y = (.pointer (some ⟨m7, 4, none⟩) : Value),
                   fun (y : Value) (u : World) => y = (.slice (some ⟨bi, oi, none⟩) f.ins.length ci : Value),
                   fun (y : Value) (u : World) => y = (.int .i64 (a : Int) : Value),
                   fun (y : Value) (u : World) => y = (.pointer (some ⟨bi, oi + a * 6, none⟩) : Value),
                   fun (y : Value) (u : World) => y = (.agg #[.int .i64 i.op, .int .i64 i.a, .int .i64 i.b, .int .i64 i.c, .int .i64 i.d, .int .i64 i.e] : Value),
                   fun (y : Value) (u : World) => y = (.pointer (some ⟨m8, 4, none⟩) : Value),
                   fun (y : Value) (u : World) => y = (.slice (some ⟨bj, oj, none⟩) f.ins.length di : Value),
                   fun (y : Value) (u : World) => y = (.int .i64 (a : Int) : Value),
                   fun (y : Value) (u : World) => y = (.pointer (some ⟨bj, oj + a * 6, none⟩) : Value),
                   fun (y : Value) (u : World) => y = (.agg #[.int .i64 i.op, .int .i64 i.a, .int .i64 i.b, .int .i64 i.c, .int .i64 i.d, .int .i64 i.e] : Value),
                   fun (y : Value) (u : World) => y = (.bool false : Value)]
                  (by kernel_rfl) (by kernel_rfl) (by kernel_rfl) (by kernel_rfl) ((Kp.refl _).drew) (fun _ _ hk h => h.trans hk) ⟨fun _ _ _ _ h => h, fun _ _ _ _ h => h, fun _ _ _ _ h => h, fun _ _ _ _ h => h, fun _ _ _ _ h => h, fun _ _ _ _ h => h, fun _ _ _ _ h => h, fun _ _ _ _ h => h, fun _ _ _ _ h => h, fun _ _ _ _ h => h, fun _ _ _ _ h => h, trivial⟩ ⟨?sc0, ?sc1, ?sc2, ?sc3, ?sc4, ?sc5, ?sc6, ?sc7, ?sc8, ?sc9, ?sc10, trivial⟩ ?hEc
                case sc0 =>
                  intro x u hg hd K hK
                  clear hd
                  refine ⟨?_⟩
                  simp only [putsFrom, Act.put, List.setIfInBounds_toArray, List.set_cons_zero, List.set_cons_succ, Nat.reduceAdd] at hK ⊢
                  go_simp
                  exact hK.out _ _ (Kp.refl _) rfl
                case sc1 =>
                  intro x u hg hd K hK
                  have d0 : (x 0) = .pointer (some ⟨m7, 4, none⟩) := And.left hd
                  clear hd
                  have q0 := cell_kp hg l7 x4
                  refine ⟨?_⟩
                  simp only [putsFrom, Act.put, List.setIfInBounds_toArray, List.set_cons_zero, List.set_cons_succ, Nat.reduceAdd, d0] at hK ⊢
                  go_simp
                  exact hK.out _ _ (Kp.refl _) rfl
                case sc2 =>
                  intro x u hg hd K hK
                  clear hd
                  refine ⟨?_⟩
                  simp only [putsFrom, Act.put, List.setIfInBounds_toArray, List.set_cons_zero, List.set_cons_succ, Nat.reduceAdd] at hK ⊢
                  go_simp
                  exact hK.out _ _ (Kp.refl _) rfl
                case sc3 =>
                  intro x u hg hd K hK
                  have d1 : (x 1) = .slice (some ⟨bi, oi, none⟩) f.ins.length ci := And.left hd
                  have d2 : (x 2) = .int .i64 (a : Int) := And.left (And.right hd)
                  clear hd
                  refine ⟨?_⟩
                  simp only [putsFrom, Act.put, List.setIfInBounds_toArray, List.set_cons_zero, List.set_cons_succ, Nat.reduceAdd, d1, d2] at hK ⊢
                  go_simp
                  exact hK.out _ _ (Kp.refl _) rfl
                case sc4 =>
                  intro x u hg hd K hK
                  have d3 : (x 3) = .pointer (some ⟨bi, oi + a * 6, none⟩) := And.left hd
                  clear hd
                  have q0 := cell_kp hg hbi r0
                  have q1 := cell_kp hg hbi r1
                  have q2 := cell_kp hg hbi r2
                  have q3 := cell_kp hg hbi r3
                  have q4 := cell_kp hg hbi r4
                  have q5 := cell_kp hg hbi r5
                  refine ⟨?_⟩
                  simp only [putsFrom, Act.put, List.setIfInBounds_toArray, List.set_cons_zero, List.set_cons_succ, Nat.reduceAdd, d3] at hK ⊢
                  go_simp
                  exact hK.out _ _ (Kp.refl _) rfl
                case sc5 =>
                  intro x u hg hd K hK
                  clear hd
                  refine ⟨?_⟩
                  simp only [putsFrom, Act.put, List.setIfInBounds_toArray, List.set_cons_zero, List.set_cons_succ, Nat.reduceAdd] at hK ⊢
                  go_simp
                  exact hK.out _ _ (Kp.refl _) rfl
                case sc6 =>
                  intro x u hg hd K hK
                  have d5 : (x 5) = .pointer (some ⟨m8, 4, none⟩) := And.left hd
                  clear hd
                  have q0 := cell_kp hg l8 y4
                  refine ⟨?_⟩
                  simp only [putsFrom, Act.put, List.setIfInBounds_toArray, List.set_cons_zero, List.set_cons_succ, Nat.reduceAdd, d5] at hK ⊢
                  go_simp
                  exact hK.out _ _ (Kp.refl _) rfl
                case sc7 =>
                  intro x u hg hd K hK
                  clear hd
                  refine ⟨?_⟩
                  simp only [putsFrom, Act.put, List.setIfInBounds_toArray, List.set_cons_zero, List.set_cons_succ, Nat.reduceAdd] at hK ⊢
                  go_simp
                  exact hK.out _ _ (Kp.refl _) rfl
                case sc8 =>
                  intro x u hg hd K hK
                  have d6 : (x 6) = .slice (some ⟨bj, oj, none⟩) f.ins.length di := And.left hd
                  have d7 : (x 7) = .int .i64 (a : Int) := And.left (And.right hd)
                  clear hd
                  refine ⟨?_⟩
                  simp only [putsFrom, Act.put, List.setIfInBounds_toArray, List.set_cons_zero, List.set_cons_succ, Nat.reduceAdd, d6, d7] at hK ⊢
                  go_simp
                  exact hK.out _ _ (Kp.refl _) rfl
                case sc9 =>
                  intro x u hg hd K hK
                  have d8 : (x 8) = .pointer (some ⟨bj, oj + a * 6, none⟩) := And.left hd
                  clear hd
                  have q0 := cell_kp hg hbj s0
                  have q1 := cell_kp hg hbj s1
                  have q2 := cell_kp hg hbj s2
                  have q3 := cell_kp hg hbj s3
                  have q4 := cell_kp hg hbj s4
                  have q5 := cell_kp hg hbj s5
                  refine ⟨?_⟩
                  simp only [putsFrom, Act.put, List.setIfInBounds_toArray, List.set_cons_zero, List.set_cons_succ, Nat.reduceAdd, d8] at hK ⊢
                  go_simp
                  exact hK.out _ _ (Kp.refl _) rfl
                case sc10 =>
                  intro x u hg hd K hK
                  have d4 : (x 4) = .agg #[.int .i64 i.op, .int .i64 i.a, .int .i64 i.b, .int .i64 i.c, .int .i64 i.d, .int .i64 i.e] := And.left hd
                  have d9 : (x 9) = .agg #[.int .i64 i.op, .int .i64 i.a, .int .i64 i.b, .int .i64 i.c, .int .i64 i.d, .int .i64 i.e] := And.left (And.right hd)
                  clear hd
                  have ne := ne_ins i.op i.a i.b i.c i.d i.e u
                  refine ⟨?_⟩
                  simp only [putsFrom, Act.put, List.setIfInBounds_toArray, List.set_cons_zero, List.set_cons_succ, Nat.reduceAdd, d4, d9] at hK ⊢
                  go_simp
                  exact hK.out _ _ (Kp.refl _) rfl
                intro x u hg he
                have d0 : (x 0) = .pointer (some ⟨m7, 4, none⟩) := And.left he
                have d1 : (x 1) = .slice (some ⟨bi, oi, none⟩) f.ins.length ci := And.left (And.right he)
                have d2 : (x 2) = .int .i64 (a : Int) := And.left (And.right (And.right he))
                have d3 : (x 3) = .pointer (some ⟨bi, oi + a * 6, none⟩) := And.left (And.right (And.right (And.right he)))
                have d4 : (x 4) = .agg #[.int .i64 i.op, .int .i64 i.a, .int .i64 i.b, .int .i64 i.c, .int .i64 i.d, .int .i64 i.e] := And.left (And.right (And.right (And.right (And.right he))))
                have d5 : (x 5) = .pointer (some ⟨m8, 4, none⟩) := And.left (And.right (And.right (And.right (And.right (And.right he)))))
                have d6 : (x 6) = .slice (some ⟨bj, oj, none⟩) f.ins.length di := And.left (And.right (And.right (And.right (And.right (And.right (And.right he))))))
                have d7 : (x 7) = .int .i64 (a : Int) := And.left (And.right (And.right (And.right (And.right (And.right (And.right (And.right he)))))))
                have d8 : (x 8) = .pointer (some ⟨bj, oj + a * 6, none⟩) := And.left (And.right (And.right (And.right (And.right (And.right (And.right (And.right (And.right he))))))))
                have d9 : (x 9) = .agg #[.int .i64 i.op, .int .i64 i.a, .int .i64 i.b, .int .i64 i.c, .int .i64 i.d, .int .i64 i.e] := And.left (And.right (And.right (And.right (And.right (And.right (And.right (And.right (And.right (And.right he)))))))))
                have d10 : (x 10) = .bool false := And.left (And.right (And.right (And.right (And.right (And.right (And.right (And.right (And.right (And.right (And.right he))))))))))
                clear he
                refine ⟨?_⟩
                simp only [putsFrom, Act.put, List.setIfInBounds_toArray, List.set_cons_zero, List.set_cons_succ, Nat.reduceAdd, d0, d1, d2, d3, d4, d5, d6, d7, d8, d9, d10]
                clear d0 d1 d2 d3 d4 d5 d6 d7 d8 d9 d10
                have HKG := hid hg
                clear hg
                go_wp2
                exact ⟨⟨a + 1, hlt2, by congr 1, HKA.out.trans HKG.out⟩, by simp only [intOf, Int.toNat_natCast]; omega⟩
              · have i2 : ¬ (a : Int) < (f.ins.length : Int) := by omega
                clear hlt2 ha
                go_wp2
                exact ⟨⟨k + 1, hlt, by congr 1, HKS.out.trans (HK4.out.trans HKA.out)⟩, by simp only [intOf, Int.toNat_natCast]; omega⟩
          · have HK4 := hid (show Kp ws (((ws.alloc (Obj.cells #[.string f.name, .int .i64 f.params, .int .i64 f.slots, .int .i64 f.caps, .slice Bi f.ins.length di] 45)).alloc (Obj.cells #[.string f.name, .int .i64 f.params, .int .i64 f.slots, .int .i64 f.caps, .slice Ai f.ins.length ci] 45)).drew) from (((Kp.refl _).alloc _).alloc _).drew)
            have H7 : Hid ((((ws.alloc (Obj.cells #[.string f.name, .int .i64 f.params, .int .i64 f.slots, .int .i64 f.caps, .slice Bi f.ins.length di] 45)).alloc (Obj.cells #[.string f.name, .int .i64 f.params, .int .i64 f.slots, .int .i64 f.caps, .slice Ai f.ins.length ci] 45)).drew).heap[(ws.heap.size + 1)]? = some (Obj.cells #[.string f.name, .int .i64 f.params, .int .i64 f.slots, .int .i64 f.caps, .slice Ai f.ins.length ci] 45)) := hid (by have h := blk_new (ws.alloc (Obj.cells #[.string f.name, .int .i64 f.params, .int .i64 f.slots, .int .i64 f.caps, .slice Bi f.ins.length di] 45)) (Obj.cells #[.string f.name, .int .i64 f.params, .int .i64 f.slots, .int .i64 f.caps, .slice Ai f.ins.length ci] 45); rw [World.size_alloc] at h; exact h)
            have H8 : Hid ((((ws.alloc (Obj.cells #[.string f.name, .int .i64 f.params, .int .i64 f.slots, .int .i64 f.caps, .slice Bi f.ins.length di] 45)).alloc (Obj.cells #[.string f.name, .int .i64 f.params, .int .i64 f.slots, .int .i64 f.caps, .slice Ai f.ins.length ci] 45)).drew).heap[ws.heap.size]? = some (Obj.cells #[.string f.name, .int .i64 f.params, .int .i64 f.slots, .int .i64 f.caps, .slice Bi f.ins.length di] 45)) := hid (blk_old (blk_new ws (Obj.cells #[.string f.name, .int .i64 f.params, .int .i64 f.slots, .int .i64 f.caps, .slice Bi f.ins.length di] 45)) _)
            generalize ((ws.alloc (Obj.cells #[.string f.name, .int .i64 f.params, .int .i64 f.slots, .int .i64 f.caps, .slice Bi f.ins.length di] 45)).alloc (Obj.cells #[.string f.name, .int .i64 f.params, .int .i64 f.slots, .int .i64 f.caps, .slice Ai f.ins.length ci] 45)).drew = W4 at HK4 H7 H8 ⊢
            generalize (ws.heap.size + 1) = m7 at H7 ⊢
            generalize ws.heap.size = m8 at H8 ⊢
            have x0 := blk_cell (o := 0) (v := Value.string f.name) H7.out rfl
            have x1 := blk_cell (o := 1) (v := Value.int .i64 f.params) H7.out rfl
            have x2 := blk_cell (o := 2) (v := Value.int .i64 f.slots) H7.out rfl
            have x3 := blk_cell (o := 3) (v := Value.int .i64 f.caps) H7.out rfl
            have x4 := blk_cell (o := 4) (v := Value.slice Ai f.ins.length ci) H7.out rfl
            have xl := blk_lt H7.out
            have y0 := blk_cell (o := 0) (v := Value.string f.name) H8.out rfl
            have y1 := blk_cell (o := 1) (v := Value.int .i64 f.params) H8.out rfl
            have y2 := blk_cell (o := 2) (v := Value.int .i64 f.slots) H8.out rfl
            have y3 := blk_cell (o := 3) (v := Value.int .i64 f.caps) H8.out rfl
            have y4 := blk_cell (o := 4) (v := Value.slice Bi f.ins.length di) H8.out rfl
            have yl := blk_lt H8.out
            clear e0 e1 e2 e3 e4 f0 f1 f2 f3 f4 p0 q0
            go_wp2_with fail
            clear x0 x1 x2 x3 x4 y0 y1 y2 y3 y4 xl yl
            go_loopw [9] (fun x wr => ∃ a : Nat, a ≤ f.ins.length ∧ x = .int .i64 (a : Int) ∧ Kp W4 wr) (fun x _ => f.ins.length - (intOf x).toNat)
            case atStart => exact ⟨0, Nat.zero_le _, rfl, Kp.refl _⟩
            case round =>
              obtain ⟨wt, hwt⟩ : ∃ x, x = wr := ⟨_, rfl⟩
              subst hwt
              obtain ⟨a, ha, rfl, hka⟩ := hrel
              have HKA := hid hka
              have b7 := (hka.block _ (blk_lt H7.out)).trans H7.out
              have b8 := (hka.block _ (blk_lt H8.out)).trans H8.out
              have l7 := blk_lt b7
              have l8 := blk_lt b8
              have x4 := blk_cell (o := 4) (v := Value.slice Ai f.ins.length ci) b7 rfl
              have y4 := blk_cell (o := 4) (v := Value.slice Bi f.ins.length di) b8 rfl
              clear hka b7 b8
              by_cases hlt2 : a < f.ins.length
              · have i2 : (a : Int) < (f.ins.length : Int) := by omega
                have a1 : IntKind.i64.wrap ((a : Int) + 1) = (a : Int) + 1 := by have := HIL.out; rw [IntKind.wrap_i64]; omega
                obtain ⟨i, hi⟩ : ∃ i, f.ins[a]? = some i := ⟨_, List.getElem?_eq_getElem hlt2⟩
                obtain ⟨bi, oi, rfl, hbi, r0, r1, r2, r3, r4, r5, _⟩ := at_ins (HI.out.kp CeIns.kp (HK4.out.trans HKA.out)) hi
                obtain ⟨bj, oj, rfl, hbj, s0, s1, s2, s3, s4, s5, _⟩ := at_ins (GI.out.kp CeIns.kp (HK4.out.trans HKA.out)) hi
                clear hi
                go_upto_region 17 with fail
                refine wp_region_kp [[], [0], [], [1, 2], [3], [], [5], [], [6, 7], [8], [4, 9]] (fun u => Kp wt u)
                  [fun (y : Value) (u : World) => y = (.pointer (some ⟨m7, 4, none⟩) : Value),
                   fun (y : Value) (u : World) => y = (.slice (some ⟨bi, oi, none⟩) f.ins.length ci : Value),
                   fun (y : Value) (u : World) => y = (.int .i64 (a : Int) : Value),
                   fun (y : Value) (u : World) => y = (.pointer (some ⟨bi, oi + a * 6, none⟩) : Value),
                   fun (y : Value) (u : World) => y = (.agg #[.int .i64 i.op, .int .i64 i.a, .int .i64 i.b, .int .i64 i.c, .int .i64 i.d, .int .i64 i.e] : Value),
                   fun (y : Value) (u : World) => y = (.pointer (some ⟨m8, 4, none⟩) : Value),
                   fun (y : Value) (u : World) => y = (.slice (some ⟨bj, oj, none⟩) f.ins.length di : Value),
                   fun (y : Value) (u : World) => y = (.int .i64 (a : Int) : Value),
                   fun (y : Value) (u : World) => y = (.pointer (some ⟨bj, oj + a * 6, none⟩) : Value),
                   fun (y : Value) (u : World) => y = (.agg #[.int .i64 i.op, .int .i64 i.a, .int .i64 i.b, .int .i64 i.c, .int .i64 i.d, .int .i64 i.e] : Value),
                   fun (y : Value) (u : World) => y = (.bool false : Value)]
                  (by kernel_rfl) (by kernel_rfl) (by kernel_rfl) (by kernel_rfl) ((Kp.refl _).drew) (fun _ _ hk h => h.trans hk) ⟨fun _ _ _ _ h => h, fun _ _ _ _ h => h, fun _ _ _ _ h => h, fun _ _ _ _ h => h, fun _ _ _ _ h => h, fun _ _ _ _ h => h, fun _ _ _ _ h => h, fun _ _ _ _ h => h, fun _ _ _ _ h => h, fun _ _ _ _ h => h, fun _ _ _ _ h => h, trivial⟩ ⟨?sd0, ?sd1, ?sd2, ?sd3, ?sd4, ?sd5, ?sd6, ?sd7, ?sd8, ?sd9, ?sd10, trivial⟩ ?hEd
                case sd0 =>
                  intro x u hg hd K hK
                  clear hd
                  refine ⟨?_⟩
                  simp only [putsFrom, Act.put, List.setIfInBounds_toArray, List.set_cons_zero, List.set_cons_succ, Nat.reduceAdd] at hK ⊢
                  go_simp
                  exact hK.out _ _ (Kp.refl _) rfl
                case sd1 =>
                  intro x u hg hd K hK
                  have d0 : (x 0) = .pointer (some ⟨m7, 4, none⟩) := And.left hd
                  clear hd
                  have q0 := cell_kp hg l7 x4
                  refine ⟨?_⟩
                  simp only [putsFrom, Act.put, List.setIfInBounds_toArray, List.set_cons_zero, List.set_cons_succ, Nat.reduceAdd, d0] at hK ⊢
                  go_simp
                  exact hK.out _ _ (Kp.refl _) rfl
                case sd2 =>
                  intro x u hg hd K hK
                  clear hd
                  refine ⟨?_⟩
                  simp only [putsFrom, Act.put, List.setIfInBounds_toArray, List.set_cons_zero, List.set_cons_succ, Nat.reduceAdd] at hK ⊢
                  go_simp
                  exact hK.out _ _ (Kp.refl _) rfl
                case sd3 =>
                  intro x u hg hd K hK
                  have d1 : (x 1) = .slice (some ⟨bi, oi, none⟩) f.ins.length ci := And.left hd
                  have d2 : (x 2) = .int .i64 (a : Int) := And.left (And.right hd)
                  clear hd
                  refine ⟨?_⟩
                  simp only [putsFrom, Act.put, List.setIfInBounds_toArray, List.set_cons_zero, List.set_cons_succ, Nat.reduceAdd, d1, d2] at hK ⊢
                  go_simp
                  exact hK.out _ _ (Kp.refl _) rfl
                case sd4 =>
                  intro x u hg hd K hK
                  have d3 : (x 3) = .pointer (some ⟨bi, oi + a * 6, none⟩) := And.left hd
                  clear hd
                  have q0 := cell_kp hg hbi r0
                  have q1 := cell_kp hg hbi r1
                  have q2 := cell_kp hg hbi r2
                  have q3 := cell_kp hg hbi r3
                  have q4 := cell_kp hg hbi r4
                  have q5 := cell_kp hg hbi r5
                  refine ⟨?_⟩
                  simp only [putsFrom, Act.put, List.setIfInBounds_toArray, List.set_cons_zero, List.set_cons_succ, Nat.reduceAdd, d3] at hK ⊢
                  go_simp
                  exact hK.out _ _ (Kp.refl _) rfl
                case sd5 =>
                  intro x u hg hd K hK
                  clear hd
                  refine ⟨?_⟩
                  simp only [putsFrom, Act.put, List.setIfInBounds_toArray, List.set_cons_zero, List.set_cons_succ, Nat.reduceAdd] at hK ⊢
                  go_simp
                  exact hK.out _ _ (Kp.refl _) rfl
                case sd6 =>
                  intro x u hg hd K hK
                  have d5 : (x 5) = .pointer (some ⟨m8, 4, none⟩) := And.left hd
                  clear hd
                  have q0 := cell_kp hg l8 y4
                  refine ⟨?_⟩
                  simp only [putsFrom, Act.put, List.setIfInBounds_toArray, List.set_cons_zero, List.set_cons_succ, Nat.reduceAdd, d5] at hK ⊢
                  go_simp
                  exact hK.out _ _ (Kp.refl _) rfl
                case sd7 =>
                  intro x u hg hd K hK
                  clear hd
                  refine ⟨?_⟩
                  simp only [putsFrom, Act.put, List.setIfInBounds_toArray, List.set_cons_zero, List.set_cons_succ, Nat.reduceAdd] at hK ⊢
                  go_simp
                  exact hK.out _ _ (Kp.refl _) rfl
                case sd8 =>
                  intro x u hg hd K hK
                  have d6 : (x 6) = .slice (some ⟨bj, oj, none⟩) f.ins.length di := And.left hd
                  have d7 : (x 7) = .int .i64 (a : Int) := And.left (And.right hd)
                  clear hd
                  refine ⟨?_⟩
                  simp only [putsFrom, Act.put, List.setIfInBounds_toArray, List.set_cons_zero, List.set_cons_succ, Nat.reduceAdd, d6, d7] at hK ⊢
                  go_simp
                  exact hK.out _ _ (Kp.refl _) rfl
                case sd9 =>
                  intro x u hg hd K hK
                  have d8 : (x 8) = .pointer (some ⟨bj, oj + a * 6, none⟩) := And.left hd
                  clear hd
                  have q0 := cell_kp hg hbj s0
                  have q1 := cell_kp hg hbj s1
                  have q2 := cell_kp hg hbj s2
                  have q3 := cell_kp hg hbj s3
                  have q4 := cell_kp hg hbj s4
                  have q5 := cell_kp hg hbj s5
                  refine ⟨?_⟩
                  simp only [putsFrom, Act.put, List.setIfInBounds_toArray, List.set_cons_zero, List.set_cons_succ, Nat.reduceAdd, d8] at hK ⊢
                  go_simp
                  exact hK.out _ _ (Kp.refl _) rfl
                case sd10 =>
                  intro x u hg hd K hK
                  have d4 : (x 4) = .agg #[.int .i64 i.op, .int .i64 i.a, .int .i64 i.b, .int .i64 i.c, .int .i64 i.d, .int .i64 i.e] := And.left hd
                  have d9 : (x 9) = .agg #[.int .i64 i.op, .int .i64 i.a, .int .i64 i.b, .int .i64 i.c, .int .i64 i.d, .int .i64 i.e] := And.left (And.right hd)
                  clear hd
                  have ne := ne_ins i.op i.a i.b i.c i.d i.e u
                  refine ⟨?_⟩
                  simp only [putsFrom, Act.put, List.setIfInBounds_toArray, List.set_cons_zero, List.set_cons_succ, Nat.reduceAdd, d4, d9] at hK ⊢
                  go_simp
                  exact hK.out _ _ (Kp.refl _) rfl
                intro x u hg he
                have d0 : (x 0) = .pointer (some ⟨m7, 4, none⟩) := And.left he
                have d1 : (x 1) = .slice (some ⟨bi, oi, none⟩) f.ins.length ci := And.left (And.right he)
                have d2 : (x 2) = .int .i64 (a : Int) := And.left (And.right (And.right he))
                have d3 : (x 3) = .pointer (some ⟨bi, oi + a * 6, none⟩) := And.left (And.right (And.right (And.right he)))
                have d4 : (x 4) = .agg #[.int .i64 i.op, .int .i64 i.a, .int .i64 i.b, .int .i64 i.c, .int .i64 i.d, .int .i64 i.e] := And.left (And.right (And.right (And.right (And.right he))))
                have d5 : (x 5) = .pointer (some ⟨m8, 4, none⟩) := And.left (And.right (And.right (And.right (And.right (And.right he)))))
                have d6 : (x 6) = .slice (some ⟨bj, oj, none⟩) f.ins.length di := And.left (And.right (And.right (And.right (And.right (And.right (And.right he))))))
                have d7 : (x 7) = .int .i64 (a : Int) := And.left (And.right (And.right (And.right (And.right (And.right (And.right (And.right he)))))))
                have d8 : (x 8) = .pointer (some ⟨bj, oj + a * 6, none⟩) := And.left (And.right (And.right (And.right (And.right (And.right (And.right (And.right (And.right he))))))))
                have d9 : (x 9) = .agg #[.int .i64 i.op, .int .i64 i.a, .int .i64 i.b, .int .i64 i.c, .int .i64 i.d, .int .i64 i.e] := And.left (And.right (And.right (And.right (And.right (And.right (And.right (And.right (And.right (And.right he)))))))))
                have d10 : (x 10) = .bool false := And.left (And.right (And.right (And.right (And.right (And.right (And.right (And.right (And.right (And.right (And.right he))))))))))
                clear he
                refine ⟨?_⟩
                simp only [putsFrom, Act.put, List.setIfInBounds_toArray, List.set_cons_zero, List.set_cons_succ, Nat.reduceAdd, d0, d1, d2, d3, d4, d5, d6, d7, d8, d9, d10]
                clear d0 d1 d2 d3 d4 d5 d6 d7 d8 d9 d10
                have HKG := hid hg
                clear hg
                go_wp2
                exact ⟨⟨a + 1, hlt2, by congr 1, HKA.out.trans HKG.out⟩, by simp only [intOf, Int.toNat_natCast]; omega⟩
              · have i2 : ¬ (a : Int) < (f.ins.length : Int) := by omega
                clear hlt2 ha
                go_wp2
                exact ⟨⟨k + 1, hlt, by congr 1, HKS.out.trans (HK4.out.trans HKA.out)⟩, by simp only [intOf, Int.toNat_natCast]; omega⟩
        · have i1 : ¬ (k : Int) < (c.funcs.length : Int) := by omega
          clear hlt hk
          go_wp2
          go_ret
          exact ⟨rfl, HK0.out.trans HKW.out⟩
end Go.Proofs.Ytgonekmmbeedeaa
