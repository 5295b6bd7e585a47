/-
  What Blocks answers is memory of its own, and Collect changes no roots. Condition: arguments that hold together at most 1048576 values and letters.
-/
import Derived.SizedLaws
import Derived.Deep.CondSized
import Derived.Test.YtffjfkmnlfndkaaRows
import Derived.Test.YtffjfkmnlfndkaaCopy
namespace Go.Proofs.Ytffjfkmnlfndkaa.heapMemory
open Go.ChangeShapes Go.WideShapes Go.ChangeAt Go.RowKit
open Go.ChangeMaps (open_string shut_string)
set_option linter.unusedVariables false

theorem own : ownKnob Try.prog.godebug = none := by kernel_rfl
theorem laidOut : laidOutB Try.prog = true := by kernel_rfl


set_option linter.unusedVariables false
set_option maxRecDepth 20000 in
set_option maxHeartbeats 4000000 in
theorem walk (a0 : Int) (v1 : Value) (a1 : List MakeM) (v2 : Value) (a2 : List Int) (w : World) (w0 : (Lit.int .i64 a0).wf = true) (w1 : RdMakesB w v1 a1) (w2 : RdIntsU w v2 a2) :
    Calls Try.prog 4 #[.int .i64 a0, v1, v2] w fun e w' => e = .returned (.bool true) ∧ Kp w w' := by
  obtain ⟨hlm, _⟩ := id w1
  have W1 := hid w1; have W2 := hid w2
  have HOK : Hid (MadeOk (spotV a0 400).toNat (madeM a0 a1)) := hid (made_ok a0 a1 60)
  have HAT : Hid ((madeM a0 a1).2.length ≤ 60) := hid (madeN_len a0 a1 60)
  obtain ⟨z0, z1⟩ := spotV_bd a0 400 (by omega)
  obtain ⟨N, hN⟩ : ∃ N : Nat, spotV a0 400 = N := ⟨(spotV a0 400).toNat, by omega⟩
  rw [hN] at z0 z1
  have HN := hid hN
  obtain ⟨S, hS⟩ : ∃ S, madeM a0 a1 = S := ⟨_, rfl⟩
  rw [hS] at HOK HAT
  have HS := hid hS
  clear hS hN hlm w1 w2
  have HRO : Hid (∀ u2 w', RdInts u2 w' S.2 → True) := hid (fun _ _ _ => trivial)
  have HAI : Hid (∀ (u : World) (hi : Nat) (v : Value), OwnI u hi v S.2 → RdInts u v S.2) := hid fun u hi v h => OwnI.rd h (by have := HAT.out; omega) (fun p hp => okI_isB (HOK.out.at_ p hp) (by rw [HOK.out.room_]; have := HN.out; omega))
  obtain ⟨R, hR⟩ : ∃ R, chosenM S.2 a2 = R := ⟨_, rfl⟩
  have hRl : R.length ≤ 4000000 := by have := chosenM_len S.2 a2; have h2 := W2.out.2; rw [hR] at this; omega
  have HR := hid hR
  have HRL := hid hRl
  clear hR hRl
  obtain ⟨H0, T0⟩ := S
  have hok0 : MadeOk N (H0, T0) := by have := HOK.out; rw [HN.out] at this; exact this
  have hok0' : MadeOk N (H0, []) := ⟨hok0.sound, hok0.lsz, hok0.lsh, hok0.room_, fun p hp => by simp at hp⟩
  have hN4 : N ≤ 400 := by omega
  obtain ⟨L, hL⟩ : ∃ L, blocksM H0.sizes H0.shapes H0.cells = L := ⟨_, rfl⟩
  have hlen : L.length ≤ N := by
    rw [← hL]
    have := blks_len H0.sizes H0.shapes H0.cells H0.sizes.length
    rw [show H0.sizes.length = N from hok0.lsz.trans hok0.room_] at this
    unfold blocksM; rw [show H0.sizes.length = N from hok0.lsz.trans hok0.room_]; exact this
  have HPO : Hid (∀ b : BlockM, b ∈ L → b.cells.length ≤ 400) := hid fun b hb => by
    rw [← hL] at hb
    obtain ⟨g1, g2⟩ := blk_mem hb
    have hS0 : H0.sizes.length = N := hok0.lsz.trans hok0.room_
    have h3 := blk_len hok0.sound hok0.lsz.symm g1
    have h4 := (hok0.sound b.pos (sound_lt g1)).2.1
    have h5 := sound_lt g1
    dsimp only at h3 h4 h5
    rw [hS0] at h4 h5
    have e := congrArg (fun x : BlockM => x.cells.length) g2
    dsimp only at e
    omega
  have G0 := hid hok0'; have HLL := hid hL
  have hne := ne_cell
  clear hok0 hok0' hL
  go_enter Try.func4, Try.ntmps4
  go_wp2_with first | (go_at_call 15; go_must (refine (made_any w a0 v1 a1 W1.out).mono ?_); rintro e u1 ⟨⟨hq, hi, v, rfl, hh, hl, hown⟩, hk⟩; rw [HS.out] at hh hown; have HC := hid (⟨hh, G0.out, hk, hl⟩ : HSt w w.heap.size hi hq N H0 u1); have HO := hid hown; clear hh hl hown hk) | (go_at_call 19; go_must (first | (refine (blocks_st HC2.out).mono ?_; rintro e u3 ⟨⟨bv, rfl, hbn⟩, hk3, hst3⟩; rw [HLL.out] at hbn; obtain ⟨AB, cB, rfl⟩ := hbn.form; have HBN := hid hbn.out; have HA3 := hid (HA.out.kp hk3); have HK3 := hid hk3; have HC3 := hid hst3; clear hbn hk3 hst3) | (refine (blocks_st HC.out).mono ?_; rintro e u2 ⟨⟨av, rfl, hbw⟩, hk2, hst2⟩; rw [HLL.out] at hbw; obtain ⟨AW, cW, rfl⟩ := hbw.form; have HA := hid hbw.top; have HK2 := hid hk2; have HC2 := hid hst2; clear hbw hk2 hst2)))
  obtain ⟨xs, hx1, hx2, hap, htop⟩ := HA3.out
  have HX1 := hid hx1; have HX2 := hid hx2; have HAP := hid hap; have HTOP := hid htop
  have hA23 : u2.heap.size ≤ u3.heap.size := HK3.out.le
  have hA12 : u1.heap.size ≤ u2.heap.size := HK2.out.le
  clear hx1 hx2 hap htop
  go_loopw [12] (fun v wr => ∃ i : Nat, i ≤ L.length ∧ v = .int .i64 i ∧ (∀ q la b, i ≤ q → xs[q * 3 + 2]? = some la → L[q]? = some b → OCells wr u1.heap.size la b.cells) ∧ Touch 24 u3 wr ∧ Hx u1.heap.size u2.heap.size u3 wr) (fun v _ => L.length - lenI v)
  case atStart =>
    refine ⟨0, by omega, rfl, fun q la b _ hla hb => ?_, Touch.refl _ _, Hx.refl _ _ _⟩
    obtain ⟨b', hb', ho⟩ := chunk_la HX2.out hla
    rw [hb] at hb'; cases hb'; exact ho
  case round =>
    obtain ⟨i, hil, rfl, hrows, htc, hhx⟩ := hrel
    by_cases hlt : i < L.length
    · have i1 : (i : Int) < (L.length : Int) := by omega
      have j0 : (0 : Int) ≤ (i : Int) := by omega
      have hrow := ownsRow_touch (by decide) HX1.out htc
      obtain ⟨b, hb⟩ : ∃ b, L[i]? = some b := ⟨_, List.getElem?_eq_getElem hlt⟩
      obtain ⟨cs, ⟨la, rfl, ho0⟩, _, hget⟩ := HX2.out.get hb
      have hla : xs[i * 3 + 2]? = some la := hget 2 (by omega)
      obtain ⟨g, cg, e9, hg, hgh, d2, hlc, _, hgt⟩ := row_cell hrow hla
      cases e9
      have hrl := hrows i la b (Nat.le_refl _) hla hb
      obtain ⟨A2, c2, rfl⟩ := hrl.form
      have hbl := HPO.out b (List.mem_of_getElem? hb)
      obtain ⟨n, hn⟩ : ∃ n, b.cells.length = n := ⟨_, rfl⟩
      rw [hn] at d2 hrl hla hbl
      have HLA := hid hla; have HHX := hid hhx; have HTC := hid htc; have HRW := hid hrows
      have HRL : Hid (∃ cs : List CellM, cs.length = n ∧ OCells wr u1.heap.size (.slice A2 n c2) cs) := hid ⟨_, hn, hrl⟩
      have HT2 : Hid (∀ g', (Value.slice A2 n c2).ownBlock = some g' → u1.heap.size ≤ g' ∧ g' < u2.heap.size ∧ g ≠ g' ∧ g' < wr.heap.size) := hid fun g' hg' => by
        obtain ⟨ys, r1, r2⟩ := hrl
        have h2 := r1.lt g' hg'
        obtain ⟨cc, fr, h3⟩ := row_type r1 hg'
        obtain ⟨c1', f1', h1'⟩ := hgt
        refine ⟨h2.1, HTOP.out i _ g' HLA.out hg', fun e => ?_, h2.2⟩
        subst e
        rw [h3] at h1'
        injection h1' with h1'
        injection h1' with _ h1' _
        exact absurd h1' (by decide)
      have D2 := hid d2
      have HIDX := hid (show i + 1 ≤ L.length from hlt)
      have hsz3 : u3.heap.size ≤ wr.heap.size := hhx.size
      have i9 : (0 : Int) < ((n + 2 : Nat) : Int) := by omega
      have hWl : u1.heap.size ≤ wr.heap.size := by omega
      clear hn hrl hla hget hrow hrows htc hhx ho0 hb
      generalize hW : wr = W at *
      clear hW
      go_wp2
      go_loopw [13] (fun kv wi => ∃ k : Nat, k ≤ n ∧ kv = .int .i64 k ∧ W.grownBy wi (Value.slice A2 n c2).ownBlock ∧ ∃ cs : List CellM, cs.length = n ∧ OCells wi u1.heap.size (.slice A2 n c2) cs) (fun kv _ => n - lenI kv)
      case atStart => exact ⟨0, by omega, rfl, ⟨rfl, rfl, rfl, Nat.le_refl _, fun _ _ _ => rfl⟩, HRL.out⟩
      case round =>
        obtain ⟨k, hk, rfl, hgr, cs, hcl, hoc⟩ := hrel
        have hgl : W.heap.size ≤ wr.heap.size := hgr.size
        have d2' := cell_grown hgr D2.out hg (fun e => (HT2.out g e.symm).2.2.1 rfl)
        have HGR := hid hgr
        by_cases hlk : k < n
        · have k1 : (k : Int) < (n : Int) := by omega
          have k0 : (0 : Int) ≤ (k : Int) := by omega
          obtain ⟨g2, rfl, hg2b, hg2, hg2t⟩ := hoc.own (by omega)
          have HOC : Hid (OCells wr u1.heap.size (.slice (some ⟨g2, 0, none⟩) n c2) cs) := hid hoc
          obtain ⟨ys, r1, r2⟩ := hoc
          have hyl := r2.len
          rw [hcl] at r1
          obtain ⟨z3, hz3⟩ : ∃ z, ys[k * 2]? = some z := ⟨_, List.getElem?_eq_getElem (by omega)⟩
          obtain ⟨z4, hz4⟩ : ∃ z, ys[k * 2 + 1]? = some z := ⟨_, List.getElem?_eq_getElem (by omega)⟩
          obtain ⟨_, _, e9, _, _, qc0, _, qf0, _⟩ := row_cell r1 hz3
          cases e9
          obtain ⟨_, _, e9, _, _, qc1, _, qf1, _⟩ := row_cell r1 hz4
          cases e9
          have HCL := hid hcl
          clear r1 r2 hyl hz3 hz4 hgr hg2t hcl
          go_wp2
          go_roundw
          case rel => exact ⟨k + 1, by omega, rfl, (HGR.out.trans (grown_setCell _)).trans (grown_setCell _), cs.set k ⟨7, -99⟩, by rw [List.length_set, HCL.out], OCells.set HOC.out (by have := HCL.out; omega) ⟨7, -99⟩⟩
          case measure => simp only [lenI]; omega
        · obtain rfl : k = n := by omega
          have k1 : ¬ (k : Int) < (k : Int) := by omega
          obtain ⟨ys, r1, r2⟩ := hoc
          rw [hcl] at r1
          have B1 := hid (show k + 2 ≤ maxLen by unfold maxLen; omega)
          have B2 := hid (show (k + 2) * 16 ≤ 140737488355328 by omega)
          have hbse : u1.heap.size ≤ wr.heap.size := by omega
          have HR1 := hid r1; have HR2 := hid r2
          clear r1 r2 hcl hgr
          go_wp2_with (at_builtin; go_must (refine app_lit elCell rfl (.tmp 61) (.tmp 64) rfl HR1.out rfl _ _ 2 2 rfl rfl (by intro u hu; simp at hu; rcases hu with rfl | rfl | rfl | rfl <;> rfl) B1.out B2.out hbse ?_); intro v2 w2 hown2 hg2 hm2 hn2 hb2; obtain ⟨z9, g3, c3, e3, hg3, hg3b, q3, hq3c, f3, ht3⟩ := row_get hown2 (show 1 < (k + 2) * 2 by omega); subst e3; have HM := hid hm2; have HG2 := hid hg2; have HT3 := hid ht3; clear hm2 hg2 hown2 hn2 ht3)
          obtain ⟨c9, f9, h9⟩ := HT3.out
          have hmv : g3 < u2.heap.size ∨ u3.heap.size ≤ g3 := by
            rcases HM.out with h | ⟨k', h, h'⟩
            · exact .inl (HT2.out g3 (h.symm.trans rfl)).2.1
            · have e : k' = g3 := by injection h with h; exact h.symm
              exact .inr (by omega)
          have hrowW : ∃ zs, W.ownsRow u1.heap.size 24 2 (.slice A2 k c2) k zs := by
            obtain ⟨cs0, hc0, zs, z1, _⟩ := HRL.out
            rw [hc0] at z1; exact ⟨zs, z1⟩
          obtain ⟨zs, hzs⟩ := hrowW
          go_roundw
          case rel =>
            refine ⟨i + 1, HIDX.out, rfl, fun q la b hq' hla' hb' => ?_, ?_, ?_⟩
            · have h := HRW.out q la b (by omega) hla' hb'
              obtain ⟨A5, c5, rfl⟩ := h.form
              have hnl : ∀ g', (Value.slice A5 b.cells.length c5).ownBlock = some g' → some g' ≠ (Value.slice A2 k c2).ownBlock := fun g' hg' e => HAP.out i q _ _ g' (by omega) HLA.out hla' e.symm hg'
              have h2 := (h.keptBy HGR.out hnl).keptBy HG2.out hnl
              have hlt' : ∀ g', (Value.slice A5 b.cells.length c5).ownBlock = some g' → g' < W.heap.size := fun g' hg' => by
                obtain ⟨zs', z1', _⟩ := h
                exact (z1'.lt g' hg').2
              refine h2.far (fun g' hg' e => ?_) _
              subst e
              rcases HM.out with h3 | ⟨k', h3, h3'⟩
              · exact hnl g' hg' (by rw [← h3]; rfl)
              · have e : k' = g' := by injection h3 with h3; exact h3.symm
                have := hlt' g' hg'; omega
            · exact HTC.out.trans ((Touch.of_grown hzs HGR.out).trans ((Touch.of_grown HR1.out HG2.out).trans (touch_set h9 _)))
            · exact Hx.setCell' ((HHX.out.trans (Hx.grown HGR.out (by omega) (fun g' e => ⟨(HT2.out g' e).1, (HT2.out g' e).2.1⟩))).trans (Hx.grown HG2.out hbse (fun g' e => ⟨(HT2.out g' e).1, (HT2.out g' e).2.1⟩))) hg3b hmv _
          case measure => simp only [lenI]; omega
    · obtain rfl : i = L.length := by omega
      have i1 : ¬ (L.length : Int) < (L.length : Int) := by omega
      have HC4 := hid (HC3.out.below hhx.below HC.out.le)
      have HBN4 := hid (HBN.out.hx hhx)
      have HO4 : Hid (OwnI wr hi v T0) := hid (own_low HO.out (fun g hg => (World.ownsRow.lt HO.out g hg).2) (Below.trans HK2.out (Below.trans (Below.mono HK3.out hA12) hhx.below)))
      clear hrows htc hhx
      go_wp2_with (go_at_call 19; go_must (refine (blocks_st HC4.out).mono ?_); rintro e u8 ⟨⟨cv, rfl, hbc⟩, hk8, hst8⟩; rw [HLL.out] at hbc; obtain ⟨AC, cC, rfl⟩ := hbc.form; have HCN := hid hbc.out; have HBN8 := hid (HBN4.out.kp hk8); have HO8 := hid (ownsRow_keep HO4.out hk8); have HC8 := hid hst8; clear hbc hk8 hst8)
      go_loopw [16] (fun iv wr => ∃ i : Nat, i ≤ L.length ∧ iv = .int .i64 i ∧ Kp u8 wr) (fun iv _ => L.length - lenI iv)
      case atStart => exact ⟨0, by omega, rfl, Kp.refl _⟩
      case round =>
        obtain ⟨i, hil, rfl, hkp⟩ := hrel
        have HKP := hid hkp
        by_cases hlt : i < L.length
        · have i1 : (i : Int) < (L.length : Int) := by omega
          have j0 : (0 : Int) ≤ (i : Int) := by omega
          obtain ⟨b, hb⟩ : ∃ b, L[i]? = some b := ⟨_, List.getElem?_eq_getElem hlt⟩
          have hbl := HPO.out b (List.mem_of_getElem? hb)
          obtain ⟨g, off, la, rfl, hg, d0, d1, d2, ho⟩ := rd_blk ((HBN8.out.kp hkp).rd) hb
          obtain ⟨A2, c2, rfl⟩ := ho.form
          obtain ⟨g8, o8, lb, rfl, hg8, n0, n1, n2, hob⟩ := rd_blk ((HCN.out.kp hkp).rd) hb
          obtain ⟨A3, c3, rfl⟩ := hob.form
          have D0 := hid d0; have D1 := hid d1; have D2 := hid d2; have RA := hid ho.rd
          have N0 := hid n0; have N1 := hid n1; have N2 := hid n2; have RB := hid hob.rd; have HCS := hid (show b.cells.length ≤ 1000000 by omega)
          have hgw : g < wr.heap.size := hg
          clear hb ho hob hkp d0 d1 d2 n0 n1 n2
          go_wp2
          refine wp_region_kp [[], [], [0, 1], [2], [], [], [4, 5], [6], [3, 7], [8]] (fun u => Kp wr u)
            [fun (y : Value) (u : World) => y = (.slice (some ⟨g, off, none⟩) L.length cB : Value),
             fun (y : Value) (u : World) => y = (.int .i64 i : Value),
             fun (y : Value) (u : World) => y = (.pointer (some ⟨g, off + i * 3, none⟩) : Value),
             fun (y : Value) (u : World) => y = (.agg #[.int .i64 b.pos, .int .i64 b.shape, .slice A2 b.cells.length c2] : Value),
             fun (y : Value) (u : World) => y = (.slice (some ⟨g8, o8, none⟩) L.length cC : Value),
             fun (y : Value) (u : World) => y = (.int .i64 i : Value),
             fun (y : Value) (u : World) => y = (.pointer (some ⟨g8, o8 + i * 3, none⟩) : Value),
             fun (y : Value) (u : World) => y = (.agg #[.int .i64 b.pos, .int .i64 b.shape, .slice A3 b.cells.length c3] : Value),
             fun (y : Value) (u : World) => y = (.bool true : Value),
             fun (y : Value) (u : World) => y = (.bool false : Value)]
            (by kernel_rfl) (by kernel_rfl) (by kernel_rfl) (by kernel_rfl) ((Kp.refl _).drew) (fun _ _ hk h => h.trans hk) ⟨fun _ _ _ _ h => h, fun _ _ _ _ h => h, fun _ _ _ _ h => h, fun _ _ _ _ h => h, fun _ _ _ _ h => h, fun _ _ _ _ h => h, fun _ _ _ _ h => h, fun _ _ _ _ h => h, fun _ _ _ _ h => h, fun _ _ _ _ h => h, trivial⟩ ⟨?sb0, ?sb1, ?sb2, ?sb3, ?sb4, ?sb5, ?sb6, ?sb7, ?sb8, ?sb9, trivial⟩ ?hEb
          case sb0 =>
            intro x u hg hd K hK
            clear hd
            refine ⟨?_⟩
            simp only [putsFrom, Act.put, List.setIfInBounds_toArray, List.set_cons_zero, List.set_cons_succ, Nat.reduceAdd] at hK ⊢
            go_simp
            exact hK.out _ _ (Kp.refl _) rfl
          case sb1 =>
            intro x u hg hd K hK
            clear hd
            refine ⟨?_⟩
            simp only [putsFrom, Act.put, List.setIfInBounds_toArray, List.set_cons_zero, List.set_cons_succ, Nat.reduceAdd] at hK ⊢
            go_simp
            exact hK.out _ _ (Kp.refl _) rfl
          case sb2 =>
            intro x u hg hd K hK
            have d0 : (x 0) = .slice (some ⟨g, off, none⟩) L.length cB := And.left hd
            have d1 : (x 1) = .int .i64 i := And.left (And.right hd)
            clear hd
            refine ⟨?_⟩
            simp only [putsFrom, Act.put, List.setIfInBounds_toArray, List.set_cons_zero, List.set_cons_succ, Nat.reduceAdd, d0, d1] at hK ⊢
            go_simp
            exact hK.out _ _ (Kp.refl _) rfl
          case sb3 =>
            intro x u hg hd K hK
            have d2 : (x 2) = .pointer (some ⟨g, off + i * 3, none⟩) := And.left hd
            clear hd
            have q0 := cell_kp hg hgw D0.out
            have q1 := cell_kp hg hgw D1.out
            have q2 := cell_kp hg hgw D2.out
            refine ⟨?_⟩
            simp only [putsFrom, Act.put, List.setIfInBounds_toArray, List.set_cons_zero, List.set_cons_succ, Nat.reduceAdd, d2] at hK ⊢
            go_simp
            exact hK.out _ _ (Kp.refl _) rfl
          case sb4 =>
            intro x u hg hd K hK
            clear hd
            refine ⟨?_⟩
            simp only [putsFrom, Act.put, List.setIfInBounds_toArray, List.set_cons_zero, List.set_cons_succ, Nat.reduceAdd] at hK ⊢
            go_simp
            exact hK.out _ _ (Kp.refl _) rfl
          case sb5 =>
            intro x u hg hd K hK
            clear hd
            refine ⟨?_⟩
            simp only [putsFrom, Act.put, List.setIfInBounds_toArray, List.set_cons_zero, List.set_cons_succ, Nat.reduceAdd] at hK ⊢
            go_simp
            exact hK.out _ _ (Kp.refl _) rfl
          case sb6 =>
            intro x u hg hd K hK
            have d4 : (x 4) = .slice (some ⟨g8, o8, none⟩) L.length cC := And.left hd
            have d5 : (x 5) = .int .i64 i := And.left (And.right hd)
            clear hd
            refine ⟨?_⟩
            simp only [putsFrom, Act.put, List.setIfInBounds_toArray, List.set_cons_zero, List.set_cons_succ, Nat.reduceAdd, d4, d5] at hK ⊢
            go_simp
            exact hK.out _ _ (Kp.refl _) rfl
          case sb7 =>
            intro x u hg hd K hK
            have d6 : (x 6) = .pointer (some ⟨g8, o8 + i * 3, none⟩) := And.left hd
            clear hd
            have q0 := cell_kp hg hg8 N0.out
            have q1 := cell_kp hg hg8 N1.out
            have q2 := cell_kp hg hg8 N2.out
            refine ⟨?_⟩
            simp only [putsFrom, Act.put, List.setIfInBounds_toArray, List.set_cons_zero, List.set_cons_succ, Nat.reduceAdd, d6] at hK ⊢
            go_simp
            exact hK.out _ _ (Kp.refl _) rfl
          case sb8 =>
            intro x u hg hd K hK
            have d3 : (x 3) = .agg #[.int .i64 b.pos, .int .i64 b.shape, .slice A2 b.cells.length c2] := And.left hd
            have d7 : (x 7) = .agg #[.int .i64 b.pos, .int .i64 b.shape, .slice A3 b.cells.length c3] := And.left (And.right hd)
            clear hd
            refine ⟨?_⟩
            simp only [putsFrom, Act.put, List.setIfInBounds_toArray, List.set_cons_zero, List.set_cons_succ, Nat.reduceAdd, d3, d7] at hK ⊢
            go_simp
            go_at_call 21
            have hc := (same_block u b.pos b.shape _ _ b.cells (RdL.kp CeC.kp RA.out hg) (RdL.kp CeC.kp RB.out hg) HCS.out)
            refine hc.mono ?_
            clear hc
            rintro e u' ⟨rfl, hk⟩
            dsimp only
            exact hK.out _ _ hk rfl
          case sb9 =>
            intro x u hg hd K hK
            have d8 : (x 8) = .bool true := And.left hd
            clear hd
            refine ⟨?_⟩
            simp only [putsFrom, Act.put, List.setIfInBounds_toArray, List.set_cons_zero, List.set_cons_succ, Nat.reduceAdd, d8] at hK ⊢
            go_simp
            exact hK.out _ _ (Kp.refl _) rfl
          intro x u hg he
          have d0 : (x 0) = .slice (some ⟨g, off, none⟩) L.length cB := And.left he
          have d1 : (x 1) = .int .i64 i := And.left (And.right he)
          have d2 : (x 2) = .pointer (some ⟨g, off + i * 3, none⟩) := And.left (And.right (And.right he))
          have d3 : (x 3) = .agg #[.int .i64 b.pos, .int .i64 b.shape, .slice A2 b.cells.length c2] := And.left (And.right (And.right (And.right he)))
          have d4 : (x 4) = .slice (some ⟨g8, o8, none⟩) L.length cC := And.left (And.right (And.right (And.right (And.right he))))
          have d5 : (x 5) = .int .i64 i := And.left (And.right (And.right (And.right (And.right (And.right he)))))
          have d6 : (x 6) = .pointer (some ⟨g8, o8 + i * 3, none⟩) := And.left (And.right (And.right (And.right (And.right (And.right (And.right he))))))
          have d7 : (x 7) = .agg #[.int .i64 b.pos, .int .i64 b.shape, .slice A3 b.cells.length c3] := And.left (And.right (And.right (And.right (And.right (And.right (And.right (And.right he)))))))
          have d8 : (x 8) = .bool true := And.left (And.right (And.right (And.right (And.right (And.right (And.right (And.right (And.right he))))))))
          have d9 : (x 9) = .bool false := And.left (And.right (And.right (And.right (And.right (And.right (And.right (And.right (And.right (And.right he)))))))))
          clear he
          refine ⟨?_⟩
          simp only [putsFrom, Act.put, List.setIfInBounds_toArray, List.set_cons_zero, List.set_cons_succ, Nat.reduceAdd, d0, d1, d2, d3, d4, d5, d6, d7, d8, d9]
          clear d0 d1 d2 d3 d4 d5 d6 d7 d8 d9
          go_wp2
          go_roundw
          case rel => exact ⟨i + 1, hlt, rfl, HKP.out.trans hg⟩
          case measure => simp only [lenI]; omega
        · obtain rfl : i = L.length := by omega
          have i2 : ¬ (L.length : Int) < (L.length : Int) := by omega
          have HC9 := hid (HC8.out.kp hkp)
          have HO9 := hid (ownsRow_keep HO8.out hkp)
          clear hkp
          obtain ⟨e0, hT0, hi0, hz0, hz1, hz2, _, _⟩ := elCell
          have hmk : ∀ u : World, (Instr.makeSlice 38 (.int .i64 ((R.length : Int) + 2)) (.int .i64 ((R.length : Int) + 2))).run Try.prog u =
              .ok (.slice (some ⟨u.heap.size, 0, none⟩) (R.length + 2) (R.length + 2)) (u.alloc (.cells (madeCells #[.int .i64 0, .int .i64 0] ((R.length + 2) * 2)) 24)) := fun u => by
            have h := run_make (P := Try.prog) u 38 24 e0 _ hT0 hi0 hz0 .i64 .i64 ((R.length : Int) + 2) ((R.length : Int) + 2) (by omega) (Int.le_refl _) (by rw [hz2]; have := HRL.out; omega) (by have := HRL.out; omega)
            have e : ((R.length : Int) + 2).toNat = R.length + 2 := by omega
            rw [e] at h
            simpa [hz1, Value.cells] using h
          have r0 : (R.length : Int) < ((R.length + 2 : Nat) : Int) := by omega
          have r1 : (R.length : Int) + 1 < ((R.length + 2 : Nat) : Int) := by omega
          have r2 : (0 : Int) ≤ (R.length : Int) := by omega
          have r3 : (0 : Int) ≤ (R.length : Int) + 1 := by omega
          have hRl := HRL.out
          clear hT0 hi0 hz0 hz1 hz2
          go_wp2_with first | (go_at_call 22; go_must (refine (chosen_any _ _ _ T0 a2 (HAI.out _ _ _ HO9.out) ⟨W2.out.1.kp HC9.out.low, W2.out.2⟩).mono ?_); rintro e u9 ⟨⟨rv, rfl, hro⟩, hk9⟩; rw [HR.out] at hro; obtain ⟨AR, cR, rfl⟩ := hro.form; have HRR := hid hro; have HC10 := hid (HC9.out.kp hk9); obtain ⟨W1', hcp, hW1, hkW1, hsW1⟩ := copy_cells u9 AR cR R hro.rd; have HW1' := hid hW1; have HKW1 := hid hkW1; have f1 := blk_free (o := R.length * 2 + 1) hW1; obtain ⟨y1, hy1⟩ := cellsV_some (R ++ [⟨0, 0⟩, ⟨0, 0⟩]) (j := R.length * 2 + 1) (by simp; omega); obtain ⟨y2, hy2⟩ := cellsV_some (R ++ [⟨0, 0⟩, ⟨0, 0⟩]) (j := (R.length + 1) * 2 + 1) (by simp; omega); have k1 := blk_cell hW1 hy1; have hW2 := blk_set (o := R.length * 2 + 1) hW1 (.int .i64 (-4711)); have f2 := blk_free (o := (R.length + 1) * 2 + 1) hW2; have k2 := cell_set_ne (blk_cell hW1 hy2) (show (R.length + 1) * 2 + 1 ≠ R.length * 2 + 1 by omega) (.int .i64 (-4711)); have HW3 := hid (blk_set (o := (R.length + 1) * 2 + 1) hW2 (.int .i64 (-4712))); clear hro hk9 hW1 hkW1 hW2 hy1 hy2) | (go_at_call 23; go_must (have hk3 : Kp u9 ((W1'.setCell ⟨u9.heap.size, R.length * 2 + 1, none⟩ (.int .i64 (-4711))).setCell ⟨u9.heap.size, (R.length + 1) * 2 + 1, none⟩ (.int .i64 (-4712))) := Below.setCell (p := ⟨u9.heap.size, (R.length + 1) * 2 + 1, none⟩) (Below.setCell (p := ⟨u9.heap.size, R.length * 2 + 1, none⟩) HKW1.out (Nat.le_refl _) _) (Nat.le_refl _) _; refine (collect_st (HC10.out.kp hk3) (show RdCells _ _ R from ⟨_, _, rfl, Nat.le_add_right _ _, fun i m hm => ⟨u9.heap.size, 0, _, rfl, blk_lt HW3.out, rfl, rfl, fun j hj => mark_cell HW3.out hm hj⟩⟩) HRL.out).mono ?_); rintro e u10 ⟨rfl, hx10, hst10⟩; have HC11 := hid hst10; have HM10 := hid ((hx10.high u9.heap.size HC10.out.le (blk_lt HW3.out)).trans HW3.out); have HR10 := hid (((HRR.out.kp hk3).base HC9.out.le).hx hx10); clear hx10 hst10 hk3 f1 f2 k1 k2)
          have hm10 : u10.heap[u9.heap.size]? = some (.cells (markA R) 24 (0, 0)) := HM10.out
          obtain ⟨gm, hgm⟩ : ∃ g, u9.heap.size = g := ⟨_, rfl⟩
          rw [hgm] at hm10 ⊢
          have HMM := hid hm10
          clear hm10 hcp hsW1 hmk
          go_loopw [19] (fun iv wr => ∃ i : Nat, i ≤ R.length ∧ iv = .int .i64 i ∧ Kp u10 wr) (fun iv _ => R.length - lenI iv)
          case atStart => exact ⟨0, by omega, rfl, Kp.refl _⟩
          case round =>
            obtain ⟨i, hi5, rfl, hkp⟩ := hrel
            have hmw := (hkp.block gm (blk_lt HMM.out)).trans HMM.out
            have hgl := blk_lt hmw
            have HKP := hid hkp
            by_cases hlt5 : i < R.length
            · have i5 : (i : Int) < (R.length : Int) := by omega
              have i6 : (i : Int) < ((R.length + 2 : Nat) : Int) := by omega
              have j5 : (0 : Int) ≤ (i : Int) := by omega
              obtain ⟨m, hm⟩ : ∃ m, R[i]? = some m := ⟨_, List.getElem?_eq_getElem hlt5⟩
              have p0 := blk_cell hmw (markA_at hm).1
              have p1 := blk_cell hmw (markA_at hm).2
              obtain ⟨b2, o2, rfl, hb2, p2, p3⟩ := rd_cell ((HR10.out.kp hkp).rd) hm
              clear hm hmw hkp
              go_wp2
              go_quiet (fail)
              go_wp2
              go_roundw
              case rel => exact ⟨i + 1, hlt5, rfl, HKP.out.drewN nq⟩
              case measure => simp only [lenI]; omega
            · obtain rfl : i = R.length := by omega
              have i5 : ¬ (R.length : Int) < (R.length : Int) := by omega
              have p0 := blk_cell hmw (markA_end R).1
              have p1 := blk_cell hmw (markA_end R).2
              clear hmw hkp
              go_wp2
              go_ret
              exact ⟨rfl, Below.trans HC11.out.low (Below.mono HKP.out HC11.out.low.size)⟩

/-! ### The row's step (the guide's frame, written by program) -/
set_option maxRecDepth 100000 in
theorem lifted (os : Os) (started : os.Started) (H : Type) (enc : TypeId × Value → H) (F : Stop.Interp) :
    ReturnsInHanded {} Try.checked os 4 .any ((Rows.OpenSpec.upto Rows.heapMemorySpec).pre6 enc Try.prog Try.f4 Rows.heapMemoryUptoRow.domain false) (((Rows.OpenSpec.upto Rows.heapMemorySpec).at F).post enc Try.prog Try.f4 false true false false) := by
  refine returnsInHanded_of_cond_sized (C := Try.checked) (s := Rows.OpenSpec.upto Rows.heapMemorySpec) (k := Rows.uptoSmall) rfl own started (by kernel_rfl) Try.func4
    (OpenSpec.witness (enc := enc) (C := Try.checked) (s := Rows.OpenSpec.upto Rows.heapMemorySpec) (k := Rows.uptoSmall) rfl false ⟨#[], #[.int .i64 0, .slice none 0 0, .slice none 0 0], []⟩ 8 (by kernel_rfl) (by kernel_rfl) (by kernel_rfl)
      (x := ([.lit (.int .i64 0), .nil, .nil], [], [])) (by kernel_rfl) rfl (by kernel_rfl)) ?_
  intro W base args ds gs before hval0 hW _ hk0 hsz0 _
  have hsz : (DataW.weightsEach Try.prog (Try.f4.params.toList ++ (Rows.OpenSpec.upto Rows.heapMemorySpec).bare.plain.varTypes Try.prog) (ds ++ gs)).all (· ≤ reachBytes) = true := hsz0
  clear hsz0
  have hval : ∀ (j : Nat) t v, Try.f4.params[j]? = some t → args[j]? = some v → Value.okWide Try.prog W .any base t v := hval0
  have hW' := hW
  obtain ⟨p, q, hA0, hV, rfl, hfz, hnd⟩ := hW
  have hA : DataW.TrodAll enc Try.prog W 0 (fun _ => true) true Try.f4.params.toList args.toList ds p := hA0
  rw [Try.params4] at hA hval hsz
  obtain ⟨v0, vs0, d0, ds0, p0, q0, hargs, rfl, rfl, h0, r0⟩ := trodAll_cons hA
  obtain ⟨v1, vs1, d1, ds1, p1, q1, rfl, rfl, rfl, h1, r1⟩ := trodAll_cons r0
  obtain ⟨v2, vs2, d2, ds2, p2, q2, rfl, rfl, rfl, h2, r2⟩ := trodAll_cons r1
  obtain ⟨rfl, rfl, rfl⟩ := trodAll_nil r2
  obtain rfl : args = #[v0, v1, v2] := by cases args; simp_all
  obtain ⟨rfl, rfl⟩ := trodVars_none hV
  have hbk : Rows.uptoBulkAll [d0, d1, d2] ≤ 1048576 := of_decide_eq_true hk0
  simp only [Rows.uptoBulkAll] at hbk
  have hb0 : Rows.uptoBulk d0 ≤ 1048576 := by omega
  have hb1 : Rows.uptoBulk d1 ≤ 1048576 := by omega
  have hb2 : Rows.uptoBulk d2 ≤ 1048576 := by omega
  clear hk0 hbk
  have k0 := h0
  have lt0 : ∀ x ∈ p0, x.block < W.heap.size := by obtain ⟨m, hm⟩ := k0; exact DataW.trod_lt m _ _ _ hm
  obtain ⟨a0, rfl, rfl, rfl, w0⟩ := open_int Try.underlying3 (hval 0 3 v0 rfl rfl) h0
  have k1 := h1
  have lt1 : ∀ x ∈ p1, x.block < W.heap.size := by obtain ⟨m, hm⟩ := k1; exact DataW.trod_lt m _ _ _ hm
  have hz1 : ∀ n ∈ DataW.weights Try.prog 22 d1, n ≤ reachBytes := fun n hn => by
    have := List.all_eq_true.1 hsz _ (DataW.weights_mem_each (j := 1) rfl rfl n hn)
    simpa using this
  obtain ⟨a1, w1⟩ := open_makes (hval 1 22 v1 rfl rfl) h1 hz1
  have k2 := h2
  have lt2 : ∀ x ∈ p2, x.block < W.heap.size := by obtain ⟨m, hm⟩ := k2; exact DataW.trod_lt m _ _ _ hm
  have hz2 : ∀ n ∈ DataW.weights Try.prog 26 d2, n ≤ reachBytes := fun n hn => by
    have := List.all_eq_true.1 hsz _ (DataW.weights_mem_each (j := 2) rfl rfl n hn)
    simpa using this
  obtain ⟨a2, w2⟩ := open_intsU (hval 2 26 v2 rfl rfl) h2 hz2 hb2
  clear hA0 hval0
  simp only [List.append_nil] at hW'
  refine (walk a0 v1 a1 v2 a2 W w0 w1 w2).mono fun e W' ⟨he, bel⟩ => ?_
  subst he
  exact ⟨_, rfl, _, _, _, [], _, [], hW', trodAll_mk1 (shut_bool Try.underlying4 _), (trodAll_cons_mk (Below.trod laidOut (by kernel_rfl) (of_decide_eq_true (by kernel_rfl)) k0 bel lt0) (trodAll_cons_mk (Below.trod laidOut (by kernel_rfl) (of_decide_eq_true (by kernel_rfl)) k1 bel lt1) (trodAll_cons_mk (Below.trod laidOut (by kernel_rfl) (of_decide_eq_true (by kernel_rfl)) k2 bel lt2) trodAll_mk0))), rfl, Below.frame bel _, fun h => by cases h⟩

theorem over : Rows.heapMemoryUptoRow.holds Try.pinned (Rows.OpenSpec.upto Rows.heapMemorySpec) :=
  OpenClaim.holds_of_cond 4 Try.f4 rfl rfl rfl rfl rfl rfl rfl ⟨rfl, rfl, rfl, rfl, rfl⟩ rfl rfl rfl rfl rfl (by kernel_rfl) Try.func4 (by kernel_rfl)
    (of_decide_eq_true (by kernel_rfl)) (by unfold Func.isWrapper; rw [if_neg (of_decide_eq_false (by kernel_rfl))]; exact ⟨rfl, rfl⟩)
    (fun os started H enc _ F => lifted os started H enc F)

/-- THE STATEMENT. -/
theorem proved : Rows.HeapMemoryUptoSaid := over
#print axioms proved

end Go.Proofs.Ytffjfkmnlfndkaa.heapMemory
