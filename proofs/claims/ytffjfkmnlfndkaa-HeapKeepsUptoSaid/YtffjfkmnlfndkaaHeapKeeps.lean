/-
  Collect keeps just the blocks that the roots lead to, each as it was. Condition: arguments that hold together at most 1048576 values and letters.
-/
import Derived.SizedLaws
import Derived.Deep.CondSized
import Derived.Test.YtffjfkmnlfndkaaRows
import Derived.Test.YtffjfkmnlfndkaaHeapF
namespace Go.Proofs.Ytffjfkmnlfndkaa.heapKeeps
open Go.ChangeShapes Go.WideShapes Go.ChangeAt Go.RowKit
open Go.ChangeMaps (open_string shut_string)
set_option linter.unusedVariables false

theorem own : ownKnob Try.prog.godebug = none := by kernel_rfl
theorem laidOut : laidOutB Try.prog = true := by kernel_rfl


set_option linter.unusedVariables false
theorem filter_at {α : Type} (p : α → Bool) : ∀ (l : List α) (i : Nat) (a : α), l[i]? = some a → p a = true → (l.filter p)[((l.take i).filter p).length]? = some a
  | [], _, _, h, _ => by simp at h
  | b :: l, 0, a, h, hp => by simp at h; subst h; simp [hp]
  | b :: l, i + 1, a, h, hp => by
    have := filter_at p l i a (by simpa using h) hp
    rw [List.take_succ_cons]
    cases hb : p b with
    | true => simp [hb]; simpa using this
    | false => simp [hb]; simpa using this
def nK (P : BlockM → Bool) (l : List BlockM) : Nat := (l.filter P).length
theorem filter_take {α : Type} (p : α → Bool) (l : List α) (i : Nat) (a : α) (h : l[i]? = some a) : ((l.take (i + 1)).filter p).length = ((l.take i).filter p).length + (if p a then 1 else 0) := by
  rw [List.take_add_one, h]
  simp only [Option.toList_some, List.filter_append, List.length_append]
  cases hp : p a <;> simp [hp]
theorem kept_blocks {N : Nat} {H : HeapM} {at_ : List Int} (h : MadeOk N (H, at_)) (R : List CellM) : blocksM (collectH H R).sizes (collectH H R).shapes (collectH H R).cells = (blocksM H.sizes H.shapes H.cells).filter fun b => keepB H R b.pos := by
  refine blocks_less (keepB H R) (lessL_len _ _) (fun q => collect_sz h R q) (fun q hq => ?_)
  show sz (lessL _ H.shapes) q = _
  rw [lessL_sz, if_neg]
  simp [goneF, hq]
theorem ownsL_hx {lo hi : Nat} {w w' : World} {b n : Nat} {D : DataW Unit} (h : OwnsL w b n D) (hx : Hx lo hi w w') (hb : hi ≤ b) : OwnsL w' b n D := by
  have hl := h.lt
  obtain ⟨es, clock, h1, h2⟩ := h
  exact ⟨es, clock, by rw [hx.high b hb hl]; exact h1, h2⟩
set_option maxRecDepth 20000 in
set_option maxHeartbeats 4000000 in
theorem walk (a0 : Int) (v1 : Value) (a1 : List MakeM) (v2 : Value) (a2 : List Int) (w : World) (w0 : (Lit.int .i64 a0).wf = true) (w1 : RdMakesB w v1 a1) (w2 : RdIntsU w v2 a2) :
    Calls Try.prog 5 #[.int .i64 a0, v1, v2] w fun e w' => e = .returned (.bool true) ∧ Kp w w' := by
  obtain ⟨hlm, _⟩ := id w1
  have W1 := hid w1; have W2 := hid w2
  have HOK : Hid (MadeOk (spotV a0 400).toNat (madeM a0 a1)) := hid (made_ok a0 a1 60)
  have HAT : Hid ((madeM a0 a1).2.length ≤ 60) := hid (madeN_len a0 a1 60)
  obtain ⟨z0, z1⟩ := spotV_bd a0 400 (by omega)
  obtain ⟨N, hN⟩ : ∃ N : Nat, spotV a0 400 = N := ⟨(spotV a0 400).toNat, by omega⟩
  rw [hN] at z0 z1
  have HN := hid hN
  obtain ⟨S, hS⟩ : ∃ S, madeM a0 a1 = S := ⟨_, rfl⟩
  rw [hS] at HOK HAT
  have HS := hid hS
  clear hS hN hlm w1 w2
  have HRO : Hid (∀ u2 w', RdInts u2 w' S.2 → True) := hid (fun _ _ _ => trivial)
  have HAI : Hid (∀ (u : World) (hi : Nat) (v : Value), OwnI u hi v S.2 → RdInts u v S.2) := hid fun u hi v h => OwnI.rd h (by have := HAT.out; omega) (fun p hp => okI_isB (HOK.out.at_ p hp) (by rw [HOK.out.room_]; have := HN.out; omega))
  obtain ⟨R, hR⟩ : ∃ R, chosenM S.2 a2 = R := ⟨_, rfl⟩
  have hRl : R.length ≤ 4000000 := by have := chosenM_len S.2 a2; have h2 := W2.out.2; rw [hR] at this; omega
  have HR := hid hR
  have HRL := hid hRl
  clear hR hRl
  obtain ⟨H0, T0⟩ := S
  have hok0 : MadeOk N (H0, T0) := by have := HOK.out; rw [HN.out] at this; exact this
  have hok0' : MadeOk N (H0, []) := ⟨hok0.sound, hok0.lsz, hok0.lsh, hok0.room_, fun p hp => by simp at hp⟩
  have hN4 : N ≤ 400 := by omega
  obtain ⟨C1, hC1⟩ : ∃ C, collectH H0 R = C := ⟨_, rfl⟩
  have hok1 : MadeOk N (C1, []) := by rw [← hC1]; exact hok0.collect R
  obtain ⟨L, hL⟩ : ∃ L, blocksM H0.sizes H0.shapes H0.cells = L := ⟨_, rfl⟩
  obtain ⟨P, hP⟩ : ∃ P : BlockM → Bool, (fun b => keepB H0 R b.pos) = P := ⟨_, rfl⟩
  have hL1 : blocksM C1.sizes C1.shapes C1.cells = L.filter P := by rw [← hC1, ← hL, ← hP]; exact kept_blocks hok0 R
  have hlen : L.length ≤ N := by
    rw [← hL]
    have := blks_len H0.sizes H0.shapes H0.cells H0.sizes.length
    rw [show H0.sizes.length = N from hok0.lsz.trans hok0.room_] at this
    unfold blocksM; rw [show H0.sizes.length = N from hok0.lsz.trans hok0.room_]; exact this
  have HPO : Hid (∀ b : BlockM, b ∈ L → b.cells.length ≤ 400 ∧ okI b.pos) := hid fun b hb => by
    rw [← hL] at hb
    obtain ⟨g1, g2⟩ := blk_mem hb
    have hS0 : H0.sizes.length = N := hok0.lsz.trans hok0.room_
    have h3 := blk_len hok0.sound hok0.lsz.symm g1
    have h4 := (hok0.sound b.pos (sound_lt g1)).2.1
    have h5 := sound_lt g1
    dsimp only at h3 h4 h5
    rw [hS0] at h4 h5
    refine ⟨?_, by unfold okI; omega⟩
    have e := congrArg (fun x : BlockM => x.cells.length) g2
    dsimp only at e
    omega
  have hcells : ∀ c ∈ H0.cells, okI c.n := by
    have h := made_cells a0 a1 (fun m hm c hc => by
      obtain ⟨i, hi⟩ := List.getElem?_of_mem hm
      obtain ⟨AA, cc, e, _⟩ := RdL.form W1.out.1
      have hr := W1.out.1
      rw [e] at hr
      obtain ⟨_, _, _, _, _, _, _, _, _, _, hcs, _⟩ := at_make hr hi
      obtain ⟨i2, hi2⟩ := List.getElem?_of_mem hc
      obtain ⟨A2, c2, e2, _⟩ := RdL.form hcs
      rw [e2] at hcs
      obtain ⟨_, _, _, _, _, _, _, ok⟩ := at_cell hcs hi2
      exact ok) 60
    have e : madeN a0 a1 60 = (H0, T0) := HS.out
    rw [e] at h; exact h
  have hroots : ∀ c ∈ R, okI c.n := fun c hc => by
    rw [← HR.out] at hc
    unfold chosenM at hc
    split at hc
    · simp at hc
    · obtain ⟨p, _, rfl⟩ := List.mem_map.1 hc
      exact getD_all (P := okI) (fun q hq => okI_isB (hok0.at_ q hq) (by rw [hok0.room_]; omega)) (by unfold okI; omega) _
  have HC0 := hid hcells; have HCR := hid hroots; have G0 := hid hok0'; have G00 := hid hok0; have HC1 := hid hC1; have HLL := hid hL; have HL1 := hid hL1; have HPP := hid hP; have G1 := hid hok1
  have B16 := hid (show 0 + R.length ≤ maxLen by have := HRL.out; unfold maxLen; omega)
  have B17 := hid (show (0 + R.length) * 16 ≤ 140737488355328 by have := HRL.out; omega)
  have HN4 := hid hN4
  clear hcells hroots hok0 hok0' hok1 hC1 hL hL1 hP
  go_enter Try.func5, Try.ntmps5
  go_wp2_with first | (go_at_call 15; go_must (refine (made_any w a0 v1 a1 W1.out).mono ?_); rintro e u1 ⟨⟨hq, hi, v, rfl, hh, hl, hown⟩, hk⟩; rw [HS.out] at hh hown; have HC := hid (⟨hh, G0.out, hk, hl⟩ : HSt w w.heap.size hi hq N H0 u1); have HO := hid hown; clear hh hl hown hk) | (go_at_call 19; go_must (first | (refine (blocks_st HD.out).mono ?_; rintro e u7 ⟨⟨nv, rfl, hbn⟩, hk7, hst7⟩; rw [HL1.out] at hbn; obtain ⟨AN, cN, rfl⟩ := hbn.form; have HNOW := hid hbn.out.rd; have HK7 := hid hk7; have HE := hid hst7; clear hbn hk7 hst7) | (refine (blocks_st HC.out).mono ?_; rintro e u2 ⟨⟨wv, rfl, hbw⟩, hk2, hst2⟩; rw [HLL.out] at hbw; obtain ⟨AW, cW, rfl⟩ := hbw.form; have HWAS := hid (hbw.out.base HC.out.le); have HO := hid (ownsRow_keep HO.out hk2); have HC := hid hst2; clear hbw hk2 hst2))) | (go_at_call 22; go_must (refine (chosen_any _ _ _ T0 a2 (HAI.out _ _ _ HO.out) ⟨W2.out.1.kp HC.out.low, W2.out.2⟩).mono ?_); rintro e u3 ⟨⟨rv, rfl, hro⟩, hk3⟩; rw [HR.out] at hro; obtain ⟨AR, cR, rfl⟩ := hro.form; have HRR := hid (hro.base HC.out.le); have HWAS := hid (HWAS.out.kp hk3); have HC := hid (HC.out.kp hk3); clear hro hk3) | (go_at_call 24; go_must (refine (led_any _ hi N H0 T0 _ _ L R G00.out HN4.out HLL.out HWAS.out.rd HRR.out.rd HRL.out HC0.out HCR.out).mono ?_); rintro e u4 ⟨⟨B, cnt, D, rfl, hB, hmap, hval, hin⟩, hk4⟩; have HBh := hid (Nat.le_trans HC.out.le hB); have HMAP := hid hmap; have HVAL := hid hval; have HIN := hid hin; have HRR := hid (HRR.out.kp hk4); have HWAS := hid (HWAS.out.kp hk4); have HC := hid (HC.out.kp hk4); obtain ⟨news, hch, _, hsrc⟩ := RdL.src HRR.out.rd; have HCH := hid hch; have HSRC := hid hsrc; clear hB hmap hval hin hk4 hch hsrc) | (at_builtin; go_must (refine app_src elCell rfl (.const (.slice none 0 0)) (.tmp 34) rfl (World.ownsRow_nil u4 u4.heap.size 24 2) rfl news AR R.length cR rfl HCH.out.len HSRC.out (Chunk.one_ (ceC_one _) HCH.out) B16.out B17.out (Nat.le_refl _) ?_); intro v5 u5 hown5 hg5 hm5 hb5; have HROW := hid (show OCells u5 u4.heap.size v5 R from ⟨news, by simpa using hown5, Chunk.mono (w := u4) (w' := u5) (fun _ _ h => h) HCH.out⟩); have HMAP := hid (ownsL_kp HMAP.out hb5); have HWAS := hid (HWAS.out.kp hb5); have HC := hid (HC.out.kp hb5); clear hown5 hg5 hm5 hb5) | (go_at_call 23; go_must (refine (collect_st HC.out HROW.out.rd HRL.out).mono ?_); rintro e u6 ⟨rfl, hx6, hst6⟩; rw [HC1.out] at hst6; have HMAP := hid (ownsL_hx HMAP.out hx6 HBh.out); have HWAS := hid (HWAS.out.hx hx6); have HD := hid hst6; clear HC hx6 hst6)
  have HM7 := hid (ownsL_kp HMAP.out HK7.out)
  have HW7 := hid (HWAS.out.kp HK7.out)
  have hlf : (L.filter P).length ≤ L.length := List.length_filter_le _ _
  obtain ⟨F, hF⟩ : ∃ F, L.filter P = F := ⟨_, rfl⟩
  rw [hF] at hlf HNOW ⊢
  have HF := hid hF
  clear hF
  have HPV : Hid (∀ b ∈ L, bitI D b.pos = if P b then 1 else 0) := hid fun b hb => by
    unfold bitI
    have h1 := HIN.out b.pos
    have h2 := keepB_iff H0 R b.pos
    rw [← HPP.out]
    dsimp only
    rw [Int.toNat_natCast]
    by_cases e1 : keepB H0 R b.pos = true
    · rw [if_pos ⟨by omega, h1.2 (h2.1 e1)⟩, if_pos e1]
    · rw [if_neg (fun h => e1 (h2.2 (h1.1 h.2))), if_neg e1]
  go_loopw [14, 15] (fun kv iv wr => ∃ i : Nat, i ≤ L.length ∧ iv = .int .i64 i ∧ kv = .int .i64 (nK P (L.take i) : Nat) ∧ Kp u7 wr) (fun _ iv _ => L.length - lenI iv)
  case atStart => exact ⟨0, by omega, rfl, rfl, Kp.refl _⟩
  case round =>
    obtain ⟨i, hi', rfl, rfl, hkp⟩ := hrel
    have HKP := hid hkp
    by_cases hlt : i < L.length
    · have i1 : (i : Int) < (L.length : Int) := by omega
      have j0 : (0 : Int) ≤ (i : Int) := by omega
      obtain ⟨b, hb⟩ : ∃ b, L[i]? = some b := ⟨_, List.getElem?_eq_getElem hlt⟩
      have hbm := List.mem_of_getElem? hb
      obtain ⟨hbl, hbo⟩ := HPO.out b hbm
      obtain ⟨g, off, la, rfl, hg, d0, d1, d2, ho⟩ := rd_blk ((HW7.out.kp hkp).rd) hb
      obtain ⟨A2, c2, rfl⟩ := ho.form
      have hrun := lookL (ownsL_kp HM7.out hkp) HVAL.out hbo
      rw [HPV.out b hbm] at hrun
      have hft : nK P (L.take (i + 1)) = nK P (L.take i) + (if P b then 1 else 0) := filter_take P L i b hb
      have HFT := hid hft; have D0 := hid d0; have D1 := hid d1; have D2 := hid d2; have RA := hid ho.rd; have HBB := hid hb
      clear hft ho hb hbm hkp
      cases hp' : P b with
      | false =>
        rw [hp', if_neg (by simp)] at hrun
        have HP' := hid hp'
        clear hp'
        go_wp2
        go_roundw
        case rel => exact ⟨i + 1, by omega, rfl, by rw [HFT.out, HP'.out]; rfl, HKP.out⟩
        case measure => simp only [lenI]; omega
      | true =>
        rw [hp', if_pos rfl] at hrun
        have hnx : F[nK P (L.take i)]? = some b := by rw [← HF.out]; exact filter_at P L i b HBB.out hp'
        obtain ⟨z, hz⟩ : ∃ z, nK P (L.take i) = z := ⟨_, rfl⟩
        rw [hz] at hnx HFT ⊢
        have hzl : z < F.length := (List.getElem?_eq_some_iff.1 hnx).1
        have z1 : (z : Int) < (F.length : Int) := by omega
        have z2 : ¬ (F.length ≤ z) := by omega
        have z3 : decide (F.length ≤ z) = false := decide_eq_false z2
        have z0 : (0 : Int) ≤ (z : Int) := by omega
        obtain ⟨g8, o8, lb, rfl, hg8, n0, n1, n2, hob⟩ := rd_blk (HNOW.out.kp CeB.kp HKP.out) hnx
        obtain ⟨A3, c3, rfl⟩ := hob.form
        have HP' := hid hp'; have N0 := hid n0; have N1 := hid n1; have N2 := hid n2; have RB := hid hob.rd; have HCS := hid (show b.cells.length ≤ 1000000 by omega)
        have hgw : g < wr.heap.size := hg
        clear hp' hnx hz hob
        go_wp2
        refine wp_region_kp [[], [], [1], [0, 2], [3], [4], [4], [4, 5, 6], [4, 7], [4], [4], [4, 9, 10], [4, 11], [4, 8, 12], [4, 13], [4, 14]] (fun u => Kp wr u)
          [fun (y : Value) (u : World) => y = (.int .i64 z : Value),
           fun (y : Value) (u : World) => y = (.slice (some ⟨g8, o8, none⟩) F.length cN : Value),
           fun (y : Value) (u : World) => y = (.int .i64 F.length : Value),
           fun (y : Value) (u : World) => y = (.bool false : Value),
           fun (y : Value) (u : World) => y = (.bool false : Value),
           fun (y : Value) (u : World) => y = (.slice (some ⟨g, off, none⟩) L.length cW : Value),
           fun (y : Value) (u : World) => y = (.int .i64 i : Value),
           fun (y : Value) (u : World) => y = (.pointer (some ⟨g, off + i * 3, none⟩) : Value),
           fun (y : Value) (u : World) => y = (.agg #[.int .i64 b.pos, .int .i64 b.shape, .slice A2 b.cells.length c2] : Value),
           fun (y : Value) (u : World) => y = (.slice (some ⟨g8, o8, none⟩) F.length cN : Value),
           fun (y : Value) (u : World) => y = (.int .i64 z : Value),
           fun (y : Value) (u : World) => y = (.pointer (some ⟨g8, o8 + z * 3, none⟩) : Value),
           fun (y : Value) (u : World) => y = (.agg #[.int .i64 b.pos, .int .i64 b.shape, .slice A3 b.cells.length c3] : Value),
           fun (y : Value) (u : World) => y = (.bool true : Value),
           fun (y : Value) (u : World) => y = (.bool false : Value),
           fun (y : Value) (u : World) => y = (.bool false : Value)]
          (by kernel_rfl) (by kernel_rfl) (by kernel_rfl) (by kernel_rfl) ((Kp.refl _).drew) (fun _ _ hk h => h.trans hk) ⟨fun _ _ _ _ h => h, fun _ _ _ _ h => h, fun _ _ _ _ h => h, fun _ _ _ _ h => h, fun _ _ _ _ h => h, fun _ _ _ _ h => h, fun _ _ _ _ h => h, fun _ _ _ _ h => h, fun _ _ _ _ h => h, fun _ _ _ _ h => h, fun _ _ _ _ h => h, fun _ _ _ _ h => h, fun _ _ _ _ h => h, fun _ _ _ _ h => h, fun _ _ _ _ h => h, fun _ _ _ _ h => h, trivial⟩ ⟨?sb0, ?sb1, ?sb2, ?sb3, ?sb4, ?sb5, ?sb6, ?sb7, ?sb8, ?sb9, ?sb10, ?sb11, ?sb12, ?sb13, ?sb14, ?sb15, trivial⟩ ?hEb
        case sb0 =>
          intro x u hg hd K hK
          clear hd
          refine ⟨?_⟩
          simp only [putsFrom, Act.put, List.setIfInBounds_toArray, List.set_cons_zero, List.set_cons_succ, Nat.reduceAdd] at hK ⊢
          go_simp
          exact hK.out _ _ (Kp.refl _) rfl
        case sb1 =>
          intro x u hg hd K hK
          clear hd
          refine ⟨?_⟩
          simp only [putsFrom, Act.put, List.setIfInBounds_toArray, List.set_cons_zero, List.set_cons_succ, Nat.reduceAdd] at hK ⊢
          go_simp
          exact hK.out _ _ (Kp.refl _) rfl
        case sb2 =>
          intro x u hg hd K hK
          have d1 : (x 1) = .slice (some ⟨g8, o8, none⟩) F.length cN := And.left hd
          clear hd
          refine ⟨?_⟩
          simp only [putsFrom, Act.put, List.setIfInBounds_toArray, List.set_cons_zero, List.set_cons_succ, Nat.reduceAdd, d1] at hK ⊢
          go_simp
          exact hK.out _ _ (Kp.refl _) rfl
        case sb3 =>
          intro x u hg hd K hK
          have d0 : (x 0) = .int .i64 z := And.left hd
          have d2 : (x 2) = .int .i64 F.length := And.left (And.right hd)
          clear hd
          refine ⟨?_⟩
          simp only [putsFrom, Act.put, List.setIfInBounds_toArray, List.set_cons_zero, List.set_cons_succ, Nat.reduceAdd, d0, d2] at hK ⊢
          go_simp
          exact hK.out _ _ (Kp.refl _) rfl
        case sb4 =>
          intro x u hg hd K hK
          have d3 : (x 3) = .bool false := And.left hd
          clear hd
          refine ⟨?_⟩
          simp only [putsFrom, Act.put, List.setIfInBounds_toArray, List.set_cons_zero, List.set_cons_succ, Nat.reduceAdd, d3] at hK ⊢
          go_simp
          exact hK.out _ _ (Kp.refl _) rfl
        case sb5 =>
          intro x u hg hd K hK
          have d4 : (x 4) = .bool false := And.left hd
          clear hd
          refine ⟨?_⟩
          simp only [putsFrom, Act.put, List.setIfInBounds_toArray, List.set_cons_zero, List.set_cons_succ, Nat.reduceAdd, d4] at hK ⊢
          go_simp
          exact hK.out _ _ (Kp.refl _) rfl
        case sb6 =>
          intro x u hg hd K hK
          have d4 : (x 4) = .bool false := And.left hd
          clear hd
          refine ⟨?_⟩
          simp only [putsFrom, Act.put, List.setIfInBounds_toArray, List.set_cons_zero, List.set_cons_succ, Nat.reduceAdd, d4] at hK ⊢
          go_simp
          exact hK.out _ _ (Kp.refl _) rfl
        case sb7 =>
          intro x u hg hd K hK
          have d4 : (x 4) = .bool false := And.left hd
          have d5 : (x 5) = .slice (some ⟨g, off, none⟩) L.length cW := And.left (And.right hd)
          have d6 : (x 6) = .int .i64 i := And.left (And.right (And.right hd))
          clear hd
          refine ⟨?_⟩
          simp only [putsFrom, Act.put, List.setIfInBounds_toArray, List.set_cons_zero, List.set_cons_succ, Nat.reduceAdd, d4, d5, d6] at hK ⊢
          go_simp
          exact hK.out _ _ (Kp.refl _) rfl
        case sb8 =>
          intro x u hg hd K hK
          have d4 : (x 4) = .bool false := And.left hd
          have d7 : (x 7) = .pointer (some ⟨g, off + i * 3, none⟩) := And.left (And.right hd)
          clear hd
          have q0 := cell_kp hg hgw D0.out
          have q1 := cell_kp hg hgw D1.out
          have q2 := cell_kp hg hgw D2.out
          refine ⟨?_⟩
          simp only [putsFrom, Act.put, List.setIfInBounds_toArray, List.set_cons_zero, List.set_cons_succ, Nat.reduceAdd, d4, d7] at hK ⊢
          go_simp
          exact hK.out _ _ (Kp.refl _) rfl
        case sb9 =>
          intro x u hg hd K hK
          have d4 : (x 4) = .bool false := And.left hd
          clear hd
          refine ⟨?_⟩
          simp only [putsFrom, Act.put, List.setIfInBounds_toArray, List.set_cons_zero, List.set_cons_succ, Nat.reduceAdd, d4] at hK ⊢
          go_simp
          exact hK.out _ _ (Kp.refl _) rfl
        case sb10 =>
          intro x u hg hd K hK
          have d4 : (x 4) = .bool false := And.left hd
          clear hd
          refine ⟨?_⟩
          simp only [putsFrom, Act.put, List.setIfInBounds_toArray, List.set_cons_zero, List.set_cons_succ, Nat.reduceAdd, d4] at hK ⊢
          go_simp
          exact hK.out _ _ (Kp.refl _) rfl
        case sb11 =>
          intro x u hg hd K hK
          have d4 : (x 4) = .bool false := And.left hd
          have d9 : (x 9) = .slice (some ⟨g8, o8, none⟩) F.length cN := And.left (And.right hd)
          have d10 : (x 10) = .int .i64 z := And.left (And.right (And.right hd))
          clear hd
          refine ⟨?_⟩
          simp only [putsFrom, Act.put, List.setIfInBounds_toArray, List.set_cons_zero, List.set_cons_succ, Nat.reduceAdd, d4, d9, d10] at hK ⊢
          go_simp
          exact hK.out _ _ (Kp.refl _) rfl
        case sb12 =>
          intro x u hg hd K hK
          have d4 : (x 4) = .bool false := And.left hd
          have d11 : (x 11) = .pointer (some ⟨g8, o8 + z * 3, none⟩) := And.left (And.right hd)
          clear hd
          have q0 := cell_kp hg hg8 N0.out
          have q1 := cell_kp hg hg8 N1.out
          have q2 := cell_kp hg hg8 N2.out
          refine ⟨?_⟩
          simp only [putsFrom, Act.put, List.setIfInBounds_toArray, List.set_cons_zero, List.set_cons_succ, Nat.reduceAdd, d4, d11] at hK ⊢
          go_simp
          exact hK.out _ _ (Kp.refl _) rfl
        case sb13 =>
          intro x u hg hd K hK
          have d4 : (x 4) = .bool false := And.left hd
          have d8 : (x 8) = .agg #[.int .i64 b.pos, .int .i64 b.shape, .slice A2 b.cells.length c2] := And.left (And.right hd)
          have d12 : (x 12) = .agg #[.int .i64 b.pos, .int .i64 b.shape, .slice A3 b.cells.length c3] := And.left (And.right (And.right hd))
          clear hd
          refine ⟨?_⟩
          simp only [putsFrom, Act.put, List.setIfInBounds_toArray, List.set_cons_zero, List.set_cons_succ, Nat.reduceAdd, d4, d8, d12] at hK ⊢
          go_simp
          go_at_call 21
          have hc := (same_block u b.pos b.shape _ _ b.cells (RdL.kp CeC.kp RA.out hg) (RdL.kp CeC.kp RB.out hg) HCS.out)
          refine hc.mono ?_
          clear hc
          rintro e u' ⟨rfl, hk⟩
          dsimp only
          exact hK.out _ _ hk rfl
        case sb14 =>
          intro x u hg hd K hK
          have d4 : (x 4) = .bool false := And.left hd
          have d13 : (x 13) = .bool true := And.left (And.right hd)
          clear hd
          refine ⟨?_⟩
          simp only [putsFrom, Act.put, List.setIfInBounds_toArray, List.set_cons_zero, List.set_cons_succ, Nat.reduceAdd, d4, d13] at hK ⊢
          go_simp
          exact hK.out _ _ (Kp.refl _) rfl
        case sb15 =>
          intro x u hg hd K hK
          have d4 : (x 4) = .bool false := And.left hd
          have d14 : (x 14) = .bool false := And.left (And.right hd)
          clear hd
          refine ⟨?_⟩
          simp only [putsFrom, Act.put, List.setIfInBounds_toArray, List.set_cons_zero, List.set_cons_succ, Nat.reduceAdd, d4, d14] at hK ⊢
          go_simp
          exact hK.out _ _ (Kp.refl _) rfl
        intro x u hg he
        have d0 : (x 0) = .int .i64 z := And.left he
        have d1 : (x 1) = .slice (some ⟨g8, o8, none⟩) F.length cN := And.left (And.right he)
        have d2 : (x 2) = .int .i64 F.length := And.left (And.right (And.right he))
        have d3 : (x 3) = .bool false := And.left (And.right (And.right (And.right he)))
        have d4 : (x 4) = .bool false := And.left (And.right (And.right (And.right (And.right he))))
        have d5 : (x 5) = .slice (some ⟨g, off, none⟩) L.length cW := And.left (And.right (And.right (And.right (And.right (And.right he)))))
        have d6 : (x 6) = .int .i64 i := And.left (And.right (And.right (And.right (And.right (And.right (And.right he))))))
        have d7 : (x 7) = .pointer (some ⟨g, off + i * 3, none⟩) := And.left (And.right (And.right (And.right (And.right (And.right (And.right (And.right he)))))))
        have d8 : (x 8) = .agg #[.int .i64 b.pos, .int .i64 b.shape, .slice A2 b.cells.length c2] := And.left (And.right (And.right (And.right (And.right (And.right (And.right (And.right (And.right he))))))))
        have d9 : (x 9) = .slice (some ⟨g8, o8, none⟩) F.length cN := And.left (And.right (And.right (And.right (And.right (And.right (And.right (And.right (And.right (And.right he)))))))))
        have d10 : (x 10) = .int .i64 z := And.left (And.right (And.right (And.right (And.right (And.right (And.right (And.right (And.right (And.right (And.right he))))))))))
        have d11 : (x 11) = .pointer (some ⟨g8, o8 + z * 3, none⟩) := And.left (And.right (And.right (And.right (And.right (And.right (And.right (And.right (And.right (And.right (And.right (And.right he)))))))))))
        have d12 : (x 12) = .agg #[.int .i64 b.pos, .int .i64 b.shape, .slice A3 b.cells.length c3] := And.left (And.right (And.right (And.right (And.right (And.right (And.right (And.right (And.right (And.right (And.right (And.right (And.right he))))))))))))
        have d13 : (x 13) = .bool true := And.left (And.right (And.right (And.right (And.right (And.right (And.right (And.right (And.right (And.right (And.right (And.right (And.right (And.right he)))))))))))))
        have d14 : (x 14) = .bool false := And.left (And.right (And.right (And.right (And.right (And.right (And.right (And.right (And.right (And.right (And.right (And.right (And.right (And.right (And.right he))))))))))))))
        have d15 : (x 15) = .bool false := And.left (And.right (And.right (And.right (And.right (And.right (And.right (And.right (And.right (And.right (And.right (And.right (And.right (And.right (And.right (And.right he)))))))))))))))
        clear he
        refine ⟨?_⟩
        simp only [putsFrom, Act.put, List.setIfInBounds_toArray, List.set_cons_zero, List.set_cons_succ, Nat.reduceAdd, d0, d1, d2, d3, d4, d5, d6, d7, d8, d9, d10, d11, d12, d13, d14, d15]
        clear d0 d1 d2 d3 d4 d5 d6 d7 d8 d9 d10 d11 d12 d13 d14 d15
        go_wp2
        go_roundw
        case rel => exact ⟨i + 1, by omega, rfl, by rw [HFT.out, HP'.out]; rfl, HKP.out.trans hg⟩
        case measure => simp only [lenI]; omega
    · obtain rfl : i = L.length := by omega
      have i1 : ¬ (L.length : Int) < (L.length : Int) := by omega
      have e : nK P (L.take L.length) = F.length := by rw [List.take_length, ← HF.out]; rfl
      rw [e]
      clear e
      go_wp2
      go_ret
      exact ⟨rfl, Below.trans HE.out.low (Below.mono HKP.out (Nat.le_trans HE.out.heap.hxlo HE.out.le))⟩

/-! ### The row's step (the guide's frame, written by program) -/
set_option maxRecDepth 100000 in
theorem lifted (os : Os) (started : os.Started) (H : Type) (enc : TypeId × Value → H) (F : Stop.Interp) :
    ReturnsInHanded {} Try.checked os 5 .any ((Rows.OpenSpec.upto Rows.heapKeepsSpec).pre6 enc Try.prog Try.f5 Rows.heapKeepsUptoRow.domain false) (((Rows.OpenSpec.upto Rows.heapKeepsSpec).at F).post enc Try.prog Try.f5 false true false false) := by
  refine returnsInHanded_of_cond_sized (C := Try.checked) (s := Rows.OpenSpec.upto Rows.heapKeepsSpec) (k := Rows.uptoSmall) rfl own started (by kernel_rfl) Try.func5
    (OpenSpec.witness (enc := enc) (C := Try.checked) (s := Rows.OpenSpec.upto Rows.heapKeepsSpec) (k := Rows.uptoSmall) rfl false ⟨#[], #[.int .i64 0, .slice none 0 0, .slice none 0 0], []⟩ 8 (by kernel_rfl) (by kernel_rfl) (by kernel_rfl)
      (x := ([.lit (.int .i64 0), .nil, .nil], [], [])) (by kernel_rfl) rfl (by kernel_rfl)) ?_
  intro W base args ds gs before hval0 hW _ hk0 hsz0 _
  have hsz : (DataW.weightsEach Try.prog (Try.f5.params.toList ++ (Rows.OpenSpec.upto Rows.heapKeepsSpec).bare.plain.varTypes Try.prog) (ds ++ gs)).all (· ≤ reachBytes) = true := hsz0
  clear hsz0
  have hval : ∀ (j : Nat) t v, Try.f5.params[j]? = some t → args[j]? = some v → Value.okWide Try.prog W .any base t v := hval0
  have hW' := hW
  obtain ⟨p, q, hA0, hV, rfl, hfz, hnd⟩ := hW
  have hA : DataW.TrodAll enc Try.prog W 0 (fun _ => true) true Try.f5.params.toList args.toList ds p := hA0
  rw [Try.params5] at hA hval hsz
  obtain ⟨v0, vs0, d0, ds0, p0, q0, hargs, rfl, rfl, h0, r0⟩ := trodAll_cons hA
  obtain ⟨v1, vs1, d1, ds1, p1, q1, rfl, rfl, rfl, h1, r1⟩ := trodAll_cons r0
  obtain ⟨v2, vs2, d2, ds2, p2, q2, rfl, rfl, rfl, h2, r2⟩ := trodAll_cons r1
  obtain ⟨rfl, rfl, rfl⟩ := trodAll_nil r2
  obtain rfl : args = #[v0, v1, v2] := by cases args; simp_all
  obtain ⟨rfl, rfl⟩ := trodVars_none hV
  have hbk : Rows.uptoBulkAll [d0, d1, d2] ≤ 1048576 := of_decide_eq_true hk0
  simp only [Rows.uptoBulkAll] at hbk
  have hb0 : Rows.uptoBulk d0 ≤ 1048576 := by omega
  have hb1 : Rows.uptoBulk d1 ≤ 1048576 := by omega
  have hb2 : Rows.uptoBulk d2 ≤ 1048576 := by omega
  clear hk0 hbk
  have k0 := h0
  have lt0 : ∀ x ∈ p0, x.block < W.heap.size := by obtain ⟨m, hm⟩ := k0; exact DataW.trod_lt m _ _ _ hm
  obtain ⟨a0, rfl, rfl, rfl, w0⟩ := open_int Try.underlying3 (hval 0 3 v0 rfl rfl) h0
  have k1 := h1
  have lt1 : ∀ x ∈ p1, x.block < W.heap.size := by obtain ⟨m, hm⟩ := k1; exact DataW.trod_lt m _ _ _ hm
  have hz1 : ∀ n ∈ DataW.weights Try.prog 22 d1, n ≤ reachBytes := fun n hn => by
    have := List.all_eq_true.1 hsz _ (DataW.weights_mem_each (j := 1) rfl rfl n hn)
    simpa using this
  obtain ⟨a1, w1⟩ := open_makes (hval 1 22 v1 rfl rfl) h1 hz1
  have k2 := h2
  have lt2 : ∀ x ∈ p2, x.block < W.heap.size := by obtain ⟨m, hm⟩ := k2; exact DataW.trod_lt m _ _ _ hm
  have hz2 : ∀ n ∈ DataW.weights Try.prog 26 d2, n ≤ reachBytes := fun n hn => by
    have := List.all_eq_true.1 hsz _ (DataW.weights_mem_each (j := 2) rfl rfl n hn)
    simpa using this
  obtain ⟨a2, w2⟩ := open_intsU (hval 2 26 v2 rfl rfl) h2 hz2 hb2
  clear hA0 hval0
  simp only [List.append_nil] at hW'
  refine (walk a0 v1 a1 v2 a2 W w0 w1 w2).mono fun e W' ⟨he, bel⟩ => ?_
  subst he
  exact ⟨_, rfl, _, _, _, [], _, [], hW', trodAll_mk1 (shut_bool Try.underlying4 _), (trodAll_cons_mk (Below.trod laidOut (by kernel_rfl) (of_decide_eq_true (by kernel_rfl)) k0 bel lt0) (trodAll_cons_mk (Below.trod laidOut (by kernel_rfl) (of_decide_eq_true (by kernel_rfl)) k1 bel lt1) (trodAll_cons_mk (Below.trod laidOut (by kernel_rfl) (of_decide_eq_true (by kernel_rfl)) k2 bel lt2) trodAll_mk0))), rfl, Below.frame bel _, fun h => by cases h⟩

theorem over : Rows.heapKeepsUptoRow.holds Try.pinned (Rows.OpenSpec.upto Rows.heapKeepsSpec) :=
  OpenClaim.holds_of_cond 5 Try.f5 rfl rfl rfl rfl rfl rfl rfl ⟨rfl, rfl, rfl, rfl, rfl⟩ rfl rfl rfl rfl rfl (by kernel_rfl) Try.func5 (by kernel_rfl)
    (of_decide_eq_true (by kernel_rfl)) (by unfold Func.isWrapper; rw [if_neg (of_decide_eq_false (by kernel_rfl))]; exact ⟨rfl, rfl⟩)
    (fun os started H enc _ F => lifted os started H enc F)

/-- THE STATEMENT. -/
theorem proved : Rows.HeapKeepsUptoSaid := over
#print axioms proved

end Go.Proofs.Ytffjfkmnlfndkaa.heapKeeps
