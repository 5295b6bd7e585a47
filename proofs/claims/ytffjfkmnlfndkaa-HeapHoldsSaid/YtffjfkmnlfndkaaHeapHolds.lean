/-
  What is put into a cell is loaded from it, and no other cell turns. Condition: none but the reading of the arguments.
-/
import Derived.SizedLaws
import Derived.Deep.CondSized
import Derived.Test.YtffjfkmnlfndkaaRows
import Derived.Test.YtffjfkmnlfndkaaHeapE
namespace Go.Proofs.Ytffjfkmnlfndkaa.heapHolds
open Go.ChangeShapes Go.WideShapes Go.ChangeAt Go.RowKit
open Go.ChangeMaps (open_string shut_string)
set_option linter.unusedVariables false

theorem own : ownKnob Try.prog.godebug = none := by kernel_rfl
theorem laidOut : laidOutB Try.prog = true := by kernel_rfl


set_option linter.unusedVariables false
theorem made_all (room : Int) (l : List MakeM) (k : Nat) : ∀ q : Nat, 0 < sz (madeN room l k).1.sizes q → (q : Int) ∈ (madeN room l k).2 := by
  have key : ∀ (l : List MakeM) (N : Nat) (S : HeapM × List Int), MadeOk N S → (∀ q : Nat, 0 < sz S.1.sizes q → (q : Int) ∈ S.2) → ∀ q : Nat, 0 < sz (l.foldl madeStep S).1.sizes q → (q : Int) ∈ (l.foldl madeStep S).2 := by
    intro l N
    induction l with
    | nil => intro S _ h; exact h
    | cons m l ih =>
      intro S hok h
      refine ih (madeStep S m) (hok.step m) ?_
      unfold madeStep
      split
      · exact h
      · rename_i ha
        intro q hq
        rw [(putM_same _ _ _ _ _).1] at hq
        obtain ⟨k, e1, e2, n0, _, g, _⟩ := alloc_ok (H := S.1) hok.sound (Classical.not_not.1 ha)
        have g3 : (k : Int) + (spotV m.n 12 + 1) ≤ S.1.sizes.length := g.2.2
        rw [e2] at hq
        have hq' : 0 < sz (S.1.sizes.set k (spotV m.n 12 + 1)) q := hq
        rw [sz_set (by omega)] at hq'
        rw [e1]
        split at hq'
        · rename_i e; subst e; simp
        · exact List.mem_append_left _ (h q hq')
  refine key (l.take k) _ _ (made_new room (spotV_bd room 400 (by omega)).1) (fun q hq => ?_)
  have : sz (newH (spotV room 400).toNat).sizes q = 0 := by unfold newH sz List.getD; rw [List.getElem?_replicate]; split <;> rfl
  have hq' : 0 < sz (newH (spotV room 400).toNat).sizes q := hq
  omega
theorem HeapIs.set {w : World} {lo hi hq b o : Nat} {H : HeapM} (h : HeapIs w lo hi hq H) (hb : b < lo) (v : Value) : HeapIs (w.setCell ⟨b, o, none⟩ v) lo hi hq H := by
  obtain ⟨gc, gs, gh, hat, r1, r2, r3, r4⟩ := h
  refine ⟨gc, gs, gh, ⟨?_, ?_, ?_, ?_, hat.lsz, hat.lsh, hat.ne, hat.le, hat.ok, hat.fit⟩, r1, r2, r3, r4⟩
  · rw [set_other _ (by omega)]; exact hat.head
  · rw [set_other _ (by omega)]; exact hat.cell
  · rw [set_other _ (by omega)]; exact hat.size
  · rw [set_other _ (by omega)]; exact hat.shape
set_option maxRecDepth 20000 in
set_option maxHeartbeats 4000000 in
theorem walk (a0 : Int) (v1 : Value) (a1 : List MakeM) (a2 : Int) (a3 : Int) (v4 : Value) (a4 : CellM) (w : World) (w0 : (Lit.int .i64 a0).wf = true) (w1 : RdMakesB w v1 a1) (w2 : (Lit.int .i64 a2).wf = true) (w3 : (Lit.int .i64 a3).wf = true) (w4 : RdCell w v4 a4) :
    Calls Try.prog 3 #[.int .i64 a0, v1, .int .i64 a2, .int .i64 a3, v4] w fun e w' => e = .returned (.bool true) ∧ Kp w w' := by
  obtain ⟨rfl, ok0, ok1⟩ := w4
  have W1 := hid w1
  have HOK : Hid (MadeOk (spotV a0 400).toNat (madeM a0 a1)) := hid (made_ok a0 a1 60)
  have HAT : Hid ((madeM a0 a1).2.length ≤ 60) := hid (madeN_len a0 a1 60)
  have HALL : Hid (∀ q : Nat, 0 < sz (madeM a0 a1).1.sizes q → (q : Int) ∈ (madeM a0 a1).2) := hid (made_all a0 a1 60)
  obtain ⟨z0, z1⟩ := spotV_bd a0 400 (by omega)
  obtain ⟨N, hN⟩ : ∃ N : Nat, spotV a0 400 = N := ⟨(spotV a0 400).toNat, by omega⟩
  rw [hN] at HOK z0 z1
  have hN4 : N ≤ 400 := by omega
  obtain ⟨S, hS⟩ : ∃ S, madeM a0 a1 = S := ⟨_, rfl⟩
  rw [hS] at HOK HAT HALL
  have HS := hid hS
  have hl1 : S.1.sizes.length = N := HOK.out.lsz.trans HOK.out.room_
  have hl2 : S.1.shapes.length = N := HOK.out.lsh.trans HOK.out.room_
  have hl3 : S.1.cells.length = N := HOK.out.room_
  have HL1 := hid hl1; have HL2 := hid hl2; have HL3 := hid hl3
  have HAI : Hid (∀ (u : World) (hi : Nat) (v : Value), OwnI u hi v S.2 → RdInts u v S.2) := hid fun u hi v h => OwnI.rd h (by have := HAT.out; omega) (fun p hp => okI_isB (HOK.out.at_ p hp) (by rw [HOK.out.room_]; omega))
  clear hS hN w1 w0 w2 w3 hl1 hl2 hl3
  rcases Nat.eq_zero_or_pos S.2.length with h0 | h0
  · have hnb : isB S.1 0 = false := by
      cases e : isB S.1 0 with
      | false => rfl
      | true =>
        have := HALL.out 0 ((isB_iff HOK.out.lsz 0).1 (by simpa using e))
        have e2 := List.eq_nil_of_length_eq_zero h0
        rw [e2] at this; simp at this
    have hst : storeC S.1 0 0 a4.tag = 16 := by unfold storeC placeM; rw [if_pos hnb]; simp
    have HST := hid hst
    clear hnb hst
    go_enter Try.func3, Try.ntmps3
    go_wp2_with first | (go_at_call 15; go_must (refine (made_any _ a0 v1 a1 ⟨W1.out.1.kp CeMake.kp ((Kp.refl _).alloc _), W1.out.2⟩).mono ?_); rintro e u1 ⟨⟨hq, hi, v, rfl, hh, hl, hown⟩, hk⟩; rw [HS.out] at hh hown; obtain ⟨AV, cV, rfl⟩ := own_form hown; have HH := hid hh; have HL := hid hl; have HK := hid hk; have c0 := cell_kp hk (by simp) (blk_cell (o := 0) (blk_new w (.cells #[.int .i64 a4.tag, .int .i64 a4.n] 24)) rfl); have c1 := cell_kp hk (by simp) (blk_cell (o := 1) (blk_new w (.cells #[.int .i64 a4.tag, .int .i64 a4.n] 24)) rfl); clear hh hl hown hk) | (go_at_call 16; go_must (refine (store_any u1 _ hi hq S.1 0 0 a4 HH.out (Nat.le_trans HH.out.hxlo HL.out)).mono ?_); rintro e u2 ⟨rfl, hh5, hx5⟩; rw [HST.out]; have HX5 := hid hx5; clear hh5 hx5)
    go_ret
    exact ⟨rfl, Below.trans ((Kp.refl w).alloc _) (Below.trans (Below.mono HK.out (by simp)) (Below.mono HX5.out.below (by simp)))⟩
  · have i0 : ¬ ((S.2.length : Int) = 0) := by omega
    have b0 : ((S.2.length : Int) == 0) = false := beq_false_of_ne i0
    have I0 := hid (show (0 : Int) < (S.2.length : Int) by omega)
    have L63 := hid (show (S.2.length : Int) ≤ 9223372036854775807 by have := HAT.out; omega)
    obtain ⟨y0, y1⟩ := spotV_bd a2 S.2.length I0.out
    obtain ⟨q, hq⟩ : ∃ q : Nat, spotV a2 S.2.length = q := ⟨(spotV a2 S.2.length).toNat, by omega⟩
    rw [hq] at y0 y1
    have hql : q < S.2.length := by omega
    have HQ := hid hq
    obtain ⟨p, hp⟩ : ∃ p, S.2.getD q 0 = p := ⟨_, rfl⟩
    have hpb : isB S.1 p = true := HOK.out.at_ p (by rw [← hp]; simp only [List.getD, List.getElem?_eq_getElem hql, Option.getD_some]; exact List.getElem_mem hql)
    have HPP := hid hp
    obtain ⟨k, rfl, hk⟩ := isB_neg hpb
    have hs0 := (isB_iff HOK.out.lsz k).1 hpb
    obtain ⟨s, hs⟩ : ∃ s, sz S.1.sizes k = s := ⟨_, rfl⟩
    obtain ⟨t, ht⟩ : ∃ t, sz S.1.shapes k = t := ⟨_, rfl⟩
    have hs1 : S.1.sizes[k]? = some s := by rw [← hs]; exact sz_at (by rw [HL1.out, ← HL3.out]; exact hk)
    have ht1 : S.1.shapes[k]? = some t := by rw [← ht]; exact sz_at (by rw [HL2.out, ← HL3.out]; exact hk)
    rw [hs] at hs0
    have hfit := (HOK.out.sound k (by rw [HL1.out, ← HL3.out]; exact hk)).2.1
    rw [hs, HL1.out] at hfit
    have HSS := hid hs1; have HTT := hid ht1; have HPB := hid hpb; have HSZ := hid hs
    obtain ⟨n, rfl⟩ : ∃ n : Nat, s = (n : Int) + 1 := ⟨(s - 1).toNat, by omega⟩
    have hpl : ∀ i : Int, placeM S.1 k i = if i < 0 ∨ (n : Int) ≤ i then (0, 14) else ((k : Int) + 1 + i, 0) := fun i => by
      unfold placeM
      have e : S.1.sizes.getD ((k : Int)).toNat 0 - 1 = (n : Int) := by
        have : S.1.sizes.getD ((k : Int)).toNat 0 = sz S.1.sizes k := rfl
        rw [this, HSZ.out]; omega
      rw [HPB.out, if_neg (by simp), e]
    have HPL := hid hpl
    clear hs ht hs1 ht1 hp hq hpl hpb hk
    rcases Nat.eq_zero_or_pos n with hn0 | hn0
    · subst hn0
      have hst : storeC S.1 k a3 a4.tag = 14 := by
        have h := HPL.out a3
        rw [if_pos (show a3 < 0 ∨ ((0 : Nat) : Int) ≤ a3 by omega)] at h
        unfold storeC; rw [h]; simp
      have HST := hid hst
      clear hst
      go_enter Try.func3, Try.ntmps3
      go_wp2_with first | (go_at_call 15; go_must (refine (made_any _ a0 v1 a1 ⟨W1.out.1.kp CeMake.kp ((Kp.refl _).alloc _), W1.out.2⟩).mono ?_); rintro e u1 ⟨⟨hq, hi, v, rfl, hh, hl, hown⟩, hk⟩; rw [HS.out] at hh hown; obtain ⟨AV, cV, rfl⟩ := own_form hown; have HH := hid hh; have HL := hid hl; have HK := hid hk; have c0 := cell_kp hk (by simp) (blk_cell (o := 0) (blk_new w (.cells #[.int .i64 a4.tag, .int .i64 a4.n] 24)) rfl); have c1 := cell_kp hk (by simp) (blk_cell (o := 1) (blk_new w (.cells #[.int .i64 a4.tag, .int .i64 a4.n] 24)) rfl); have hat := (HAI.out _ _ _ hown).at_ hql; rw [HPP.out] at hat; obtain ⟨b9, o9, e9, hb9, c9⟩ := hat; cases e9; clear hh hl hown hk) | (go_at_call 17; go_must (refine (spot_any a2 S.2.length _ I0.out L63.out).mono ?_); rintro e w4 ⟨rfl, rfl⟩; rw [HQ.out]) | (go_at_call 18; go_must (obtain ⟨gc, gs, gh, hat2, _⟩ := HH.out; refine (look_yes _ hq gc gs gh S.1 k _ t hat2 HSS.out HTT.out (by omega)).mono ?_); rintro e u3 ⟨rfl, hk3⟩; have c0 := cell_kp hk3 (Nat.lt_of_lt_of_le (by simp) HK.out.le) c0; have c1 := cell_kp hk3 (Nat.lt_of_lt_of_le (by simp) HK.out.le) c1; have HK3 := hid hk3; clear hk3) | (go_at_call 16; go_must (refine (store_any u3 _ hi hq S.1 k a3 a4 (HH.out.kp HK3.out) (Nat.le_trans (Nat.le_trans HH.out.hxlo HL.out) HK3.out.le)).mono ?_); rintro e u2 ⟨rfl, hh5, hx5⟩; rw [HST.out]; have HX5 := hid hx5; clear hh5 hx5)
      go_ret
      exact ⟨rfl, Below.trans ((Kp.refl w).alloc _) (Below.trans (Below.mono HK.out (by simp)) (Below.trans (Below.mono HK3.out (Nat.le_trans (by simp) HK.out.le)) (Below.mono HX5.out.below (by simp))))⟩
    · obtain ⟨x0, x1⟩ := spotV_bd a3 n (by omega)
      obtain ⟨i, hi'⟩ : ∃ i : Nat, spotV a3 n = i := ⟨(spotV a3 n).toNat, by omega⟩
      rw [hi'] at x0 x1
      obtain ⟨tg, htg⟩ : ∃ tg, spotV a4.tag 8 = tg := ⟨_, rfl⟩
      obtain ⟨t0, t1⟩ := spotV_bd a4.tag 8 (by omega)
      rw [htg] at t0 t1
      have hp1 : placeM S.1 k i = (((k + 1 + i : Nat) : Int), 0) := by
        rw [HPL.out i, if_neg (by omega)]; simp
      have hst : storeC S.1 k i tg = 0 := by unfold storeC; rw [hp1, if_neg (by simp), if_neg (by omega)]
      obtain ⟨H', hH'⟩ : ∃ H', ({ S.1 with cells := S.1.cells.set (k + 1 + i) ⟨tg, a4.n⟩ } : HeapM) = H' := ⟨_, rfl⟩
      have hsh : storeH S.1 k i ⟨tg, a4.n⟩ = H' := by
        unfold storeH; rw [if_pos hst, hp1, ← hH']; rfl
      have hp2 : placeM H' k i = (((k + 1 + i : Nat) : Int), 0) := by
        rw [← hp1, ← hH']; unfold placeM isB; simp only [List.length_set]
      have hcc : H'.cells[k + 1 + i]? = some ⟨tg, a4.n⟩ := by
        rw [← hH']; simp only [List.getElem?_set]
        rw [if_pos trivial, if_pos (by rw [HL3.out]; omega)]
      obtain ⟨L, hL⟩ : ∃ L, blocksM S.1.sizes S.1.shapes S.1.cells = L := ⟨_, rfl⟩
      have hL' : blocksM H'.sizes H'.shapes H'.cells = L.map fun b => if b.pos = k then { b with cells := b.cells.set i ⟨tg, a4.n⟩ } else b := by
        rw [← hH', ← hL]
        exact blocks_set HOK.out.sound HOK.out.lsz.symm (by rw [HSZ.out]; omega) (by rw [HSZ.out]; omega) _
      have hlen : L.length ≤ N := by
        rw [← hL]
        have := blks_len S.1.sizes S.1.shapes S.1.cells S.1.sizes.length
        rw [HL1.out] at this
        unfold blocksM; rw [HL1.out]; exact this
      have HI := hid hi'; have HTG := hid htg; have HST := hid hst; have HSH := hid hsh; have HP2 := hid hp2; have HCC := hid hcc; have HLL := hid hL; have HLM := hid hL'
      have IN := hid (show (0 : Int) < (n : Int) by omega)
      have LN := hid (show (n : Int) ≤ 9223372036854775807 by omega)
      have bn : ((n : Int) == 0) = false := beq_false_of_ne (by omega)
      have hne := ne_cell
      clear hi' htg hp1 hst hH' hsh hp2 hcc hL hL'
      go_enter Try.func3, Try.ntmps3
      go_wp2_with first | (go_at_call 15; go_must (refine (made_any _ a0 v1 a1 ⟨W1.out.1.kp CeMake.kp ((Kp.refl _).alloc _), W1.out.2⟩).mono ?_); rintro e u1 ⟨⟨hq, hi, v, rfl, hh, hl, hown⟩, hk⟩; rw [HS.out] at hh hown; obtain ⟨AV, cV, rfl⟩ := own_form hown; have HH := hid hh; have HL := hid hl; have HK := hid hk; have hbx := (hk.block w.heap.size (by simp)).trans (blk_new w (.cells #[.int .i64 a4.tag, .int .i64 a4.n] 24)); have hat := (HAI.out _ _ _ hown).at_ hql; rw [HPP.out] at hat; obtain ⟨b9, o9, e9, hb9, c9⟩ := hat; cases e9; have HBX := hid hbx; clear hh hl hown hk hbx) | (go_at_call 17; go_must (refine (spot_any _ _ _ (by first | exact I0.out | exact IN.out | decide) (by first | exact L63.out | exact LN.out | decide)).mono ?_); rintro e w4 ⟨rfl, rfl⟩; first | rw [HQ.out] | rw [HI.out] | rw [HTG.out]) | (go_at_call 18; go_must (obtain ⟨gc, gs, gh, hat2, _⟩ := HH.out; refine (look_yes _ hq gc gs gh S.1 k _ t hat2 HSS.out HTT.out (by omega)).mono ?_); rintro e u3 ⟨rfl, hk3⟩; have HB3 := hid ((hk3.block w.heap.size (Nat.lt_of_lt_of_le (by simp) HK.out.le)).trans HBX.out); have c0 := blk_cell (o := 0) HB3.out rfl; have c1 := blk_cell (o := 1) HB3.out rfl; have fz := blk_free (o := 0) HB3.out; have HK3 := hid hk3; have HH3 := hid (HeapIs.set (b := w.heap.size) (o := 0) (HH.out.kp hk3) (by simp) (.int .i64 tg)); have HL3' := hid (Nat.le_trans HL.out hk3.le); have HB3' := hid (blk_set (o := 0) HB3.out (.int .i64 tg)); clear hk3) | (go_at_call 19; go_must (first | (refine (blocks_any _ _ hi hq S.1 HH3.out).mono ?_; rintro e u4 ⟨⟨wv, rfl, hb4⟩, hk4⟩; rw [HLL.out] at hb4; obtain ⟨AW, cW, rfl⟩ := hb4.form; have HB4 := hid ((hk4.block w.heap.size (Nat.lt_of_lt_of_le (blk_lt HB3.out) (by simp))).trans HB3'.out); have c4 := blk_cell (o := 0) (v := .int .i64 tg) HB4.out rfl; have c5 := blk_cell (o := 1) (v := .int .i64 a4.n) HB4.out rfl; have HH4 := hid (HH3.out.kp hk4); have HL4 := hid (Nat.le_trans HL3'.out (Nat.le_trans (by simp) hk4.le)); have HWAS := hid hb4.top; have HK4 := hid hk4; clear hb4 hk4 HH3) | (refine (blocks_any _ _ hi hq H' (HH6.out.kp ((Kp.refl u6).alloc (.cells #[.int .i64 tg, .int .i64 a4.n] 24)))).mono ?_; rintro e u7 ⟨⟨nv, rfl, hb7⟩, hk7⟩; rw [HLM.out] at hb7; obtain ⟨AN, cN, rfl⟩ := hb7.form; rw [List.length_map]; have HB7 := hid ((hk7.block w.heap.size (Nat.lt_of_lt_of_le (blk_lt HB6.out) (by simp))).trans (blk_old HB6.out _)); have c6 := blk_cell (o := 0) (v := .int .i64 tg) HB7.out rfl; have c7 := blk_cell (o := 1) (v := .int .i64 a4.n) HB7.out rfl; have hd7 := (hk7.block u6.heap.size (by simp)).trans (blk_new u6 (.cells #[.int .i64 tg, .int .i64 a4.n] 24)); have c8 := blk_cell (o := 0) (v := .int .i64 tg) hd7 rfl; have c9' := blk_cell (o := 1) (v := .int .i64 a4.n) hd7 rfl; have HNOW := hid hb7; have HK7 := hid hk7; have HWAS7 := hid ((HWAS6.out.kp ((Kp.refl u6).alloc (.cells #[.int .i64 tg, .int .i64 a4.n] 24))).kp hk7); clear hb7 hk7 hd7))) | (go_at_call 16; go_must (refine (store_any u4 _ hi hq S.1 k i ⟨tg, a4.n⟩ HH4.out (Nat.le_trans HH.out.hxlo HL4.out)).mono ?_); rintro e u5 ⟨rfl, hh5, hx5⟩; rw [HSH.out] at hh5; rw [show storeC S.1 (k : Int) (i : Int) (⟨tg, a4.n⟩ : CellM).tag = 0 from HST.out]; have HH5 := hid hh5; have HX5 := hid hx5; have HB5 := hid ((hx5.low w.heap.size (by simp)).trans HB4.out); have HWAS5 := hid ((OBlksT.base HWAS.out (Nat.le_trans HL3'.out (by simp))).hx hx5); clear hh5 hx5) | (go_at_call 20; go_must (obtain ⟨gc, gs, gh, hat3, _⟩ := HH5.out; refine (load_yes u5 hq gc gs gh H' k i (k + 1 + i) ⟨tg, a4.n⟩ hat3 HP2.out HCC.out).mono ?_); rintro e u6 ⟨rfl, hk6⟩; have HH6 := hid (HH5.out.kp hk6); have HB6 := hid ((hk6.block w.heap.size (blk_lt HB5.out)).trans HB5.out); have HWAS6 := hid (HWAS5.out.kp hk6); have HK6 := hid hk6; clear hk6)
      obtain ⟨xs, hx1, hx2, hap, htop⟩ := HWAS7.out
      have HTOP := hid htop
      obtain ⟨B7, hB7⟩ : ∃ B, (u6.alloc (.cells #[.int .i64 tg, .int .i64 a4.n] 24)).heap.size = B := ⟨_, rfl⟩
      have HLT : Hid (∀ b : BlockM, b ∈ L → b.pos = k → b.cells.length = n) := hid fun b hb e => by
        rw [← HLL.out] at hb
        obtain ⟨g1, g2⟩ := blk_mem hb
        rw [g2, e]
        have := blk_len HOK.out.sound HOK.out.lsz.symm (q := k) (by rw [HSZ.out]; omega)
        dsimp only
        rw [HSZ.out] at this ⊢
        omega
      have HLS : Hid (∀ b : BlockM, b ∈ L → b.cells.length ≤ 400) := hid fun b hb => by
        rw [← HLL.out] at hb
        obtain ⟨g1, g2⟩ := blk_mem hb
        have := blk_len HOK.out.sound HOK.out.lsz.symm g1
        have h4 := (HOK.out.sound b.pos (sound_lt g1)).2.1
        rw [HL1.out] at h4
        rw [g2]; dsimp only; omega
      have hnow := HNOW.out
      rw [hB7] at hnow
      have HNW := hid hnow.out; have HX1 := hid hx1; have HX2 := hid hx2; have HAP := hid hap
      have hBl : B7 ≤ u7.heap.size := by rw [← hB7]; exact HK7.out.le
      have HB7s := hid hBl
      have h67 : Below w.heap.size w u7 := Below.trans ((Kp.refl w).alloc _) (Below.trans (Below.mono HK.out (by simp)) (Below.trans (Below.mono HK3.out (Nat.le_trans (by simp) HK.out.le)) (Below.trans (Below.setCell (p := ⟨w.heap.size, 0, none⟩) (Below.refl w.heap.size u3) (Nat.le_refl _) _) (Below.trans (Below.mono HK4.out (Nat.le_trans (Nat.le_trans (by simp) HK.out.le) (Nat.le_trans HK3.out.le (by simp)))) (Below.trans (Below.mono HX5.out.below (by simp)) (Below.trans (Below.mono HK6.out (Nat.le_of_lt (blk_lt HB5.out))) (Below.trans (Below.mono ((Kp.refl u6).alloc _) (Nat.le_of_lt (blk_lt HB6.out))) (Below.mono HK7.out (by have := blk_lt HB6.out; simp; omega)))))))))
      have H67 := hid h67
      have h4B : u4.heap.size ≤ B7 := by rw [← hB7]; have h1 := HX5.out.size; have h2 := HK6.out.le; simp; omega
      have hin : hi ≤ B7 := by rw [← hB7]; exact Nat.le_trans HL4.out (by have h1 := HX5.out.size; have h2 := HK6.out.le; simp; omega)
      clear htop hnow hx1 hx2 hap hB7 hBl h67 c0 c1 c4 c5 c6 c7 c8 c9' c9 fz
      go_loopw [22] (fun v wr => ∃ j : Nat, j ≤ L.length ∧ v = .int .i64 j ∧ (∀ q la b, j ≤ q → xs[q * 3 + 2]? = some la → L[q]? = some b → OCells wr hi la b.cells) ∧ Touch 24 u7 wr ∧ Hx hi B7 u7 wr) (fun v _ => L.length - lenI v)
      case atStart =>
        refine ⟨0, by omega, rfl, fun q la b _ hla hb => ?_, Touch.refl _ _, Hx.refl _ _ _⟩
        obtain ⟨b', hb', ho⟩ := chunk_la HX2.out hla
        rw [hb] at hb'; cases hb'; exact ho
      case round =>
        obtain ⟨j, hj, rfl, hrows, htc, hhx⟩ := hrel
        by_cases hlt : j < L.length
        · have i1 : (j : Int) < (L.length : Int) := by omega
          have j0 : (0 : Int) ≤ (j : Int) := by omega
          have hrow := ownsRow_touch (by decide) HX1.out htc
          have hxl := HX2.out.len
          obtain ⟨b, hb⟩ : ∃ b, L[j]? = some b := ⟨_, List.getElem?_eq_getElem hlt⟩
          obtain ⟨cs, ⟨la, rfl, ho0⟩, _, hget⟩ := HX2.out.get hb
          have hla : xs[j * 3 + 2]? = some la := hget 2 (by omega)
          obtain ⟨g, cg, e9, hg, hgh, d0, hlc, _, hgt⟩ := row_cell hrow (show xs[j * 3]? = some (.int .i64 b.pos) from by simpa using hget 0 (by omega))
          cases e9
          obtain ⟨g', cg', e9, _, _, d1, _⟩ := row_cell hrow (show xs[j * 3 + 1]? = some (.int .i64 b.shape) from hget 1 (by omega))
          cases e9
          obtain ⟨g', cg', e9, _, _, d2, _⟩ := row_cell hrow hla
          cases e9
          have hrl := hrows j la b (Nat.le_refl _) hla hb
          obtain ⟨A2, c2, rfl⟩ := hrl.form
          obtain ⟨b', hb'⟩ : ∃ b', (if b.pos = k then { b with cells := b.cells.set i ⟨tg, a4.n⟩ } else b : BlockM) = b' := ⟨_, rfl⟩
          have hnb : (L.map fun b => if b.pos = k then { b with cells := b.cells.set i ⟨tg, a4.n⟩ } else b)[j]? = some b' := by rw [List.getElem?_map, hb, ← hb']; rfl
          have hbl := HLS.out b (List.mem_of_getElem? hb)
          have hnw := (HNW.out.hx hhx)
          obtain ⟨AN', cN', e9⟩ := hnw.form
          rw [List.length_map] at e9
          cases e9
          obtain ⟨g8, o8, lb, rfl, hg8, n0, n1, n2, hob⟩ := rd_blk (by have := hnw.rd; rw [List.length_map] at this; exact this) hnb
          have hob' := hob
          obtain ⟨A3, c3, rfl⟩ := hob.form
          have HBQ := hid ((hhx.low w.heap.size (by have := HH.out.hxlo; simp at this; omega)).trans HB7.out)
          have hwl : hi ≤ wr.heap.size := Nat.le_trans hin (Nat.le_trans HB7s.out hhx.size)
          have D0 := hid d0; have D1 := hid d1; have D2 := hid d2; have N0 := hid n0; have N1 := hid n1; have N2 := hid n2; have HX := hid hhx; have HTC := hid htc; have HRW := hid hrows; have HRL := hid hrl; have HOB := hid hob
          have HBB := hid hb; have HLA := hid hla; have HB' := hid hb'
          have KKj : j + 1 ≤ L.length := hlt
          clear hb hla hrows hrl hob hob' hget ho0 hnw hnb hxl hrow
          by_cases hp : b.pos = k
          · have bp : ((b.pos : Int) == (k : Int)) = true := by simp [hp]
            have hbl2 := HLT.out b (List.mem_of_getElem? HBB.out) hp
            have e' : b' = { b with cells := b.cells.set i ⟨tg, a4.n⟩ } := by rw [← HB'.out, if_pos hp]
            obtain ⟨g2, rfl, hg2b, hg2, hg2t⟩ := HRL.out.own (by omega)
            rw [e'] at n0 n1 n2 N0 N1 N2 HOB
            dsimp only at n0 n1 n2
            rw [List.length_set] at n2
            have N0' := hid n0; have N1' := hid n1; have N2' := hid n2
            have HOB2 : Hid (OCells wr B7 (.slice A3 b.cells.length c3) (b.cells.set i ⟨tg, a4.n⟩)) := hid (by have := HOB.out; dsimp only at this; rw [List.length_set] at this; exact this)
            obtain ⟨ys, r1, r2⟩ := HRL.out
            have hyl := r2.len
            obtain ⟨z3, hz3⟩ : ∃ z, ys[i * 2]? = some z := ⟨_, List.getElem?_eq_getElem (by omega)⟩
            obtain ⟨z4, hz4⟩ : ∃ z, ys[i * 2 + 1]? = some z := ⟨_, List.getElem?_eq_getElem (by omega)⟩
            obtain ⟨_, _, e9, _, _, qc0, _, qf0, _⟩ := row_cell r1 hz3
            cases e9
            obtain ⟨_, _, e9, _, _, qc1, _, qf1, _⟩ := row_cell r1 hz4
            cases e9
            have hgtop := HTOP.out j _ g2 HLA.out rfl
            have QC0 := hid qc0; have QC1 := hid qc1; have QF0 := hid qf0; have QF1 := hid qf1; have HT2 := hid hg2t
            have hgw : g < wr.heap.size := hg
            have i3 : (0 : Int) ≤ (i : Int) := by omega
            have i4 : (i : Int) < (b.cells.length : Int) := by omega
            clear N0 N1 N2 HOB qc0 qc1 qf0 qf1 r1 r2 hyl hz3 hz4 hb' e' hg2t hbl2
            go_wp2
            refine wp_region_last 8 [[], [], [0, 1], [2], [3], [], [], [4, 5], [6, 7]] (fun u => Kp wr u)
              [fun (y : Value) (u : World) => y = (.slice (some ⟨g, 0, none⟩) L.length cW : Value),
               fun (y : Value) (u : World) => y = (.int .i64 j : Value),
               fun (y : Value) (u : World) => y = (.pointer (some ⟨g, j * 3, none⟩) : Value),
               fun (y : Value) (u : World) => y = (.pointer (some ⟨g, j * 3 + 2, none⟩) : Value),
               fun (y : Value) (u : World) => y = (.slice (some ⟨g2, 0, none⟩) b.cells.length c2 : Value),
               fun (y : Value) (u : World) => y = (.int .i64 i : Value),
               fun (y : Value) (u : World) => y = (.agg #[.int .i64 tg, .int .i64 a4.n] : Value),
               fun (y : Value) (u : World) => y = (.pointer (some ⟨g2, i * 2, none⟩) : Value)]
              (by kernel_rfl) (by kernel_rfl) (by kernel_rfl) (by kernel_rfl) (by kernel_rfl) (by kernel_rfl) ((Kp.refl _).drew) (fun _ _ hk h => h.trans hk) ⟨fun _ _ _ _ h => h, fun _ _ _ _ h => h, fun _ _ _ _ h => h, fun _ _ _ _ h => h, fun _ _ _ _ h => h, fun _ _ _ _ h => h, fun _ _ _ _ h => h, fun _ _ _ _ h => h, trivial⟩ ⟨?sb0, ?sb1, ?sb2, ?sb3, ?sb4, ?sb5, ?sb6, ?sb7, trivial⟩ ⟨?hEb, trivial⟩
            case sb0 =>
              intro x u hg hd K hK
              clear hd
              refine ⟨?_⟩
              simp only [putsFrom, Act.put, List.setIfInBounds_toArray, List.set_cons_zero, List.set_cons_succ, Nat.reduceAdd] at hK ⊢
              go_simp
              exact hK.out _ _ (Kp.refl _) rfl
            case sb1 =>
              intro x u hg hd K hK
              clear hd
              refine ⟨?_⟩
              simp only [putsFrom, Act.put, List.setIfInBounds_toArray, List.set_cons_zero, List.set_cons_succ, Nat.reduceAdd] at hK ⊢
              go_simp
              exact hK.out _ _ (Kp.refl _) rfl
            case sb2 =>
              intro x u hg hd K hK
              have d0 : (x 0) = .slice (some ⟨g, 0, none⟩) L.length cW := And.left hd
              have d1 : (x 1) = .int .i64 j := And.left (And.right hd)
              clear hd
              refine ⟨?_⟩
              simp only [putsFrom, Act.put, List.setIfInBounds_toArray, List.set_cons_zero, List.set_cons_succ, Nat.reduceAdd, d0, d1] at hK ⊢
              go_simp
              exact hK.out _ _ (Kp.refl _) rfl
            case sb3 =>
              intro x u hg hd K hK
              have d2 : (x 2) = .pointer (some ⟨g, j * 3, none⟩) := And.left hd
              clear hd
              refine ⟨?_⟩
              simp only [putsFrom, Act.put, List.setIfInBounds_toArray, List.set_cons_zero, List.set_cons_succ, Nat.reduceAdd, d2] at hK ⊢
              go_simp
              exact hK.out _ _ (Kp.refl _) rfl
            case sb4 =>
              intro x u hg hd K hK
              have d3 : (x 3) = .pointer (some ⟨g, j * 3 + 2, none⟩) := And.left hd
              clear hd
              have q2 := cell_kp hg hgw D2.out
              refine ⟨?_⟩
              simp only [putsFrom, Act.put, List.setIfInBounds_toArray, List.set_cons_zero, List.set_cons_succ, Nat.reduceAdd, d3] at hK ⊢
              go_simp
              exact hK.out _ _ (Kp.refl _) rfl
            case sb5 =>
              intro x u hg hd K hK
              clear hd
              refine ⟨?_⟩
              simp only [putsFrom, Act.put, List.setIfInBounds_toArray, List.set_cons_zero, List.set_cons_succ, Nat.reduceAdd] at hK ⊢
              go_simp
              exact hK.out _ _ (Kp.refl _) rfl
            case sb6 =>
              intro x u hg hd K hK
              clear hd
              have hbx := (hg.block w.heap.size (blk_lt HBQ.out)).trans HBQ.out
              have q0 := blk_cell (o := 0) (v := .int .i64 tg) hbx rfl
              have q1 := blk_cell (o := 1) (v := .int .i64 a4.n) hbx rfl
              clear hbx
              refine ⟨?_⟩
              simp only [putsFrom, Act.put, List.setIfInBounds_toArray, List.set_cons_zero, List.set_cons_succ, Nat.reduceAdd] at hK ⊢
              go_simp
              exact hK.out _ _ (Kp.refl _) rfl
            case sb7 =>
              intro x u hg hd K hK
              have d4 : (x 4) = .slice (some ⟨g2, 0, none⟩) b.cells.length c2 := And.left hd
              have d5 : (x 5) = .int .i64 i := And.left (And.right hd)
              clear hd
              refine ⟨?_⟩
              simp only [putsFrom, Act.put, List.setIfInBounds_toArray, List.set_cons_zero, List.set_cons_succ, Nat.reduceAdd, d4, d5] at hK ⊢
              go_simp
              exact hK.out _ _ (Kp.refl _) rfl
            intro x u hg he K hK
            have d0 : (x 0) = .slice (some ⟨g, 0, none⟩) L.length cW := And.left he
            have d1 : (x 1) = .int .i64 j := And.left (And.right he)
            have d2 : (x 2) = .pointer (some ⟨g, j * 3, none⟩) := And.left (And.right (And.right he))
            have d3 : (x 3) = .pointer (some ⟨g, j * 3 + 2, none⟩) := And.left (And.right (And.right (And.right he)))
            have d4 : (x 4) = .slice (some ⟨g2, 0, none⟩) b.cells.length c2 := And.left (And.right (And.right (And.right (And.right he))))
            have d5 : (x 5) = .int .i64 i := And.left (And.right (And.right (And.right (And.right (And.right he)))))
            have d6 : (x 6) = .agg #[.int .i64 tg, .int .i64 a4.n] := And.left (And.right (And.right (And.right (And.right (And.right (And.right he))))))
            have d7 : (x 7) = .pointer (some ⟨g2, i * 2, none⟩) := And.left (And.right (And.right (And.right (And.right (And.right (And.right (And.right he)))))))
            clear he
            have HG := hid hg
            have qc0 := cell_kp hg hg2 QC0.out
            have qc1 := cell_kp hg hg2 QC1.out
            have qf0 := ((Kp.cells hg).2 _ (i * 2) hg2).trans QF0.out
            have qf1 := ((Kp.cells hg).2 _ (i * 2 + 1) hg2).trans QF1.out
            refine ⟨?_⟩
            simp only [putsFrom, Act.put, List.setIfInBounds_toArray, List.set_cons_zero, List.set_cons_succ, Nat.reduceAdd, d0, d1, d2, d3, d4, d5, d6, d7] at hK ⊢
            go_simp
            refine hK.out undef _ ⟨?_⟩
            clear hK
            clear d0 d1 d2 d3 d4 d5 d6 d7
            obtain ⟨W0, hW0⟩ : ∃ W0, (u.setCell ⟨g2, i * 2, none⟩ (.int .i64 tg)).setCell ⟨g2, i * 2 + 1, none⟩ (.int .i64 a4.n) = W0 := ⟨_, rfl⟩
            obtain ⟨ocs, ofr, hoc⟩ := HT2.out
            have hoc2 := (HG.out.block g2 hg2).trans hoc
            have hgne : g ≠ g2 := fun e => by
              obtain ⟨c1', f1', h1'⟩ := hgt
              rw [e, hoc] at h1'
              injection h1' with h1'
              injection h1' with _ h1' _
              exact absurd h1' (by decide)
            have hgB : g2 < B7 := Nat.lt_of_lt_of_le hgtop h4B
            have T0 : Touch 24 u7 W0 := by
              rw [← hW0]; exact HTC.out.trans ((Touch.of_kp HG.out).trans ((touch_set hoc2 _).trans (touch_set (blk_set hoc2 _) _)))
            have X0 : Hx hi B7 u7 W0 := by
              rw [← hW0]; exact ((HX.out.trans (Hx.of_kp HG.out hwl)).setCell hg2b hgB _).setCell hg2b hgB _
            have hsz0 : W0.heap.size = u.heap.size := by rw [← hW0]; simp [World.setCell]
            have far : ∀ (b' o' : Nat) (z : Value), b' ≠ g2 → u.cell? ⟨b', o', none⟩ = some z → W0.cell? ⟨b', o', none⟩ = some z := fun b' o' z hne h => by
              rw [← hW0]; exact cell_set_far (cell_set_far h hne _) hne _
            have E0 := hid (far g _ _ hgne (cell_kp HG.out hgw D0.out))
            have E1 := hid (far g _ _ hgne (cell_kp HG.out hgw D1.out))
            have E2 := hid (far g _ _ hgne (cell_kp HG.out hgw D2.out))
            have RA0 : Hid (RdCells W0 (.slice (some ⟨g2, 0, none⟩) b.cells.length c2) (b.cells.set i ⟨tg, a4.n⟩)) := hid (by rw [← hW0]; exact (OCells.set (HRL.out.kp HG.out) (by omega) ⟨tg, a4.n⟩).rd)
            have hnw := HNW.out.hx X0
            have hnb : (L.map fun b => if b.pos = k then { b with cells := b.cells.set i ⟨tg, a4.n⟩ } else b)[j]? = some { b with cells := b.cells.set i ⟨tg, a4.n⟩ } := by rw [List.getElem?_map, HBB.out]; simp [hp]
            obtain ⟨g9, o9', lb, e9, hg80, M0, M1, M2, hob9⟩ := rd_blk (by have := hnw.rd; rw [List.length_map] at this; exact this) hnb
            cases e9
            obtain ⟨A4, c4, rfl⟩ := hob9.form
            dsimp only at M0 M1 M2 hob9
            rw [List.length_set] at M2 hob9
            have M0 := hid M0; have M1 := hid M1; have M2 := hid M2; have RB0 := hid hob9.rd
            have HCS0 := hid (show (b.cells.set i ⟨tg, a4.n⟩).length ≤ 1000000 by rw [List.length_set]; omega)
            have hgw0 : g < W0.heap.size := by rw [hsz0]; exact Nat.lt_of_lt_of_le hgw HG.out.le
            have HRW0 : Hid (∀ q la b, j + 1 ≤ q → xs[q * 3 + 2]? = some la → L[q]? = some b → OCells W0 hi la b.cells) := hid fun q la b hq' hla hb => by
              have h := (HRW.out q la b (by omega) hla hb).kp HG.out
              obtain ⟨A5, c5, rfl⟩ := h.form
              have hne : ∀ g', (Value.slice A5 b.cells.length c5).ownBlock = some g' → g' ≠ g2 := fun g' hg' e => HAP.out j q _ _ g2 (by omega) HLA.out hla rfl (by rw [hg', e])
              rw [← hW0]; exact (h.far hne _).far hne _
            have hwl0 : hi ≤ W0.heap.size := by rw [hsz0]; exact Nat.le_trans hwl HG.out.le
            have T0 := hid T0; have X0 := hid X0
            clear hp n0 n1 n2 d0 d1 d2 hnw hnb far hoc hoc2 hob9 hsz0
            rw [hW0]
            clear hW0
            go_wp2
            refine wp_region_kp [[], [], [0, 1], [2], [], [], [4, 5], [6], [3, 7], [8]] (fun u => Kp W0 u)
              [fun (y : Value) (u : World) => y = (.slice (some ⟨g, 0, none⟩) L.length cW : Value),
               fun (y : Value) (u : World) => y = (.int .i64 j : Value),
               fun (y : Value) (u : World) => y = (.pointer (some ⟨g, j * 3, none⟩) : Value),
               fun (y : Value) (u : World) => y = (.agg #[.int .i64 b.pos, .int .i64 b.shape, .slice (some ⟨g2, 0, none⟩) b.cells.length c2] : Value),
               fun (y : Value) (u : World) => y = (.slice (some ⟨g8, o8, none⟩) L.length cN : Value),
               fun (y : Value) (u : World) => y = (.int .i64 j : Value),
               fun (y : Value) (u : World) => y = (.pointer (some ⟨g8, o8 + j * 3, none⟩) : Value),
               fun (y : Value) (u : World) => y = (.agg #[.int .i64 b.pos, .int .i64 b.shape, .slice A4 b.cells.length c4] : Value),
               fun (y : Value) (u : World) => y = (.bool true : Value),
               fun (y : Value) (u : World) => y = (.bool false : Value)]
              (by kernel_rfl) (by kernel_rfl) (by kernel_rfl) (by kernel_rfl) ((Kp.refl _).drew) (fun _ _ hk h => h.trans hk) ⟨fun _ _ _ _ h => h, fun _ _ _ _ h => h, fun _ _ _ _ h => h, fun _ _ _ _ h => h, fun _ _ _ _ h => h, fun _ _ _ _ h => h, fun _ _ _ _ h => h, fun _ _ _ _ h => h, fun _ _ _ _ h => h, fun _ _ _ _ h => h, trivial⟩ ⟨?sc0, ?sc1, ?sc2, ?sc3, ?sc4, ?sc5, ?sc6, ?sc7, ?sc8, ?sc9, trivial⟩ ?hEc
            case sc0 =>
              intro x u hg hd K hK
              clear hd
              refine ⟨?_⟩
              simp only [putsFrom, Act.put, List.setIfInBounds_toArray, List.set_cons_zero, List.set_cons_succ, Nat.reduceAdd] at hK ⊢
              go_simp
              exact hK.out _ _ (Kp.refl _) rfl
            case sc1 =>
              intro x u hg hd K hK
              clear hd
              refine ⟨?_⟩
              simp only [putsFrom, Act.put, List.setIfInBounds_toArray, List.set_cons_zero, List.set_cons_succ, Nat.reduceAdd] at hK ⊢
              go_simp
              exact hK.out _ _ (Kp.refl _) rfl
            case sc2 =>
              intro x u hg hd K hK
              have d0 : (x 0) = .slice (some ⟨g, 0, none⟩) L.length cW := And.left hd
              have d1 : (x 1) = .int .i64 j := And.left (And.right hd)
              clear hd
              refine ⟨?_⟩
              simp only [putsFrom, Act.put, List.setIfInBounds_toArray, List.set_cons_zero, List.set_cons_succ, Nat.reduceAdd, d0, d1] at hK ⊢
              go_simp
              exact hK.out _ _ (Kp.refl _) rfl
            case sc3 =>
              intro x u hg hd K hK
              have d2 : (x 2) = .pointer (some ⟨g, j * 3, none⟩) := And.left hd
              clear hd
              have q0 := cell_kp hg hgw0 E0.out
              have q1 := cell_kp hg hgw0 E1.out
              have q2 := cell_kp hg hgw0 E2.out
              refine ⟨?_⟩
              simp only [putsFrom, Act.put, List.setIfInBounds_toArray, List.set_cons_zero, List.set_cons_succ, Nat.reduceAdd, d2] at hK ⊢
              go_simp
              exact hK.out _ _ (Kp.refl _) rfl
            case sc4 =>
              intro x u hg hd K hK
              clear hd
              refine ⟨?_⟩
              simp only [putsFrom, Act.put, List.setIfInBounds_toArray, List.set_cons_zero, List.set_cons_succ, Nat.reduceAdd] at hK ⊢
              go_simp
              exact hK.out _ _ (Kp.refl _) rfl
            case sc5 =>
              intro x u hg hd K hK
              clear hd
              refine ⟨?_⟩
              simp only [putsFrom, Act.put, List.setIfInBounds_toArray, List.set_cons_zero, List.set_cons_succ, Nat.reduceAdd] at hK ⊢
              go_simp
              exact hK.out _ _ (Kp.refl _) rfl
            case sc6 =>
              intro x u hg hd K hK
              have d4 : (x 4) = .slice (some ⟨g8, o8, none⟩) L.length cN := And.left hd
              have d5 : (x 5) = .int .i64 j := And.left (And.right hd)
              clear hd
              refine ⟨?_⟩
              simp only [putsFrom, Act.put, List.setIfInBounds_toArray, List.set_cons_zero, List.set_cons_succ, Nat.reduceAdd, d4, d5] at hK ⊢
              go_simp
              exact hK.out _ _ (Kp.refl _) rfl
            case sc7 =>
              intro x u hg hd K hK
              have d6 : (x 6) = .pointer (some ⟨g8, o8 + j * 3, none⟩) := And.left hd
              clear hd
              have q0 := cell_kp hg hg80 M0.out
              have q1 := cell_kp hg hg80 M1.out
              have q2 := cell_kp hg hg80 M2.out
              refine ⟨?_⟩
              simp only [putsFrom, Act.put, List.setIfInBounds_toArray, List.set_cons_zero, List.set_cons_succ, Nat.reduceAdd, d6] at hK ⊢
              go_simp
              exact hK.out _ _ (Kp.refl _) rfl
            case sc8 =>
              intro x u hg hd K hK
              have d3 : (x 3) = .agg #[.int .i64 b.pos, .int .i64 b.shape, .slice (some ⟨g2, 0, none⟩) b.cells.length c2] := And.left hd
              have d7 : (x 7) = .agg #[.int .i64 b.pos, .int .i64 b.shape, .slice A4 b.cells.length c4] := And.left (And.right hd)
              clear hd
              refine ⟨?_⟩
              simp only [putsFrom, Act.put, List.setIfInBounds_toArray, List.set_cons_zero, List.set_cons_succ, Nat.reduceAdd, d3, d7] at hK ⊢
              go_simp
              go_at_call 21
              have hc := (same_block u b.pos b.shape _ _ (b.cells.set i ⟨tg, a4.n⟩) (RdL.kp CeC.kp RA0.out hg) (RdL.kp CeC.kp RB0.out hg) HCS0.out)
              refine hc.mono ?_
              clear hc
              rintro e u' ⟨rfl, hk⟩
              dsimp only
              exact hK.out _ _ hk rfl
            case sc9 =>
              intro x u hg hd K hK
              have d8 : (x 8) = .bool true := And.left hd
              clear hd
              refine ⟨?_⟩
              simp only [putsFrom, Act.put, List.setIfInBounds_toArray, List.set_cons_zero, List.set_cons_succ, Nat.reduceAdd, d8] at hK ⊢
              go_simp
              exact hK.out _ _ (Kp.refl _) rfl
            intro x u hg he
            have d0 : (x 0) = .slice (some ⟨g, 0, none⟩) L.length cW := And.left he
            have d1 : (x 1) = .int .i64 j := And.left (And.right he)
            have d2 : (x 2) = .pointer (some ⟨g, j * 3, none⟩) := And.left (And.right (And.right he))
            have d3 : (x 3) = .agg #[.int .i64 b.pos, .int .i64 b.shape, .slice (some ⟨g2, 0, none⟩) b.cells.length c2] := And.left (And.right (And.right (And.right he)))
            have d4 : (x 4) = .slice (some ⟨g8, o8, none⟩) L.length cN := And.left (And.right (And.right (And.right (And.right he))))
            have d5 : (x 5) = .int .i64 j := And.left (And.right (And.right (And.right (And.right (And.right he)))))
            have d6 : (x 6) = .pointer (some ⟨g8, o8 + j * 3, none⟩) := And.left (And.right (And.right (And.right (And.right (And.right (And.right he))))))
            have d7 : (x 7) = .agg #[.int .i64 b.pos, .int .i64 b.shape, .slice A4 b.cells.length c4] := And.left (And.right (And.right (And.right (And.right (And.right (And.right (And.right he)))))))
            have d8 : (x 8) = .bool true := And.left (And.right (And.right (And.right (And.right (And.right (And.right (And.right (And.right he))))))))
            have d9 : (x 9) = .bool false := And.left (And.right (And.right (And.right (And.right (And.right (And.right (And.right (And.right (And.right he)))))))))
            clear he
            refine ⟨?_⟩
            simp only [putsFrom, Act.put, List.setIfInBounds_toArray, List.set_cons_zero, List.set_cons_succ, Nat.reduceAdd, d0, d1, d2, d3, d4, d5, d6, d7, d8, d9]
            clear d0 d1 d2 d3 d4 d5 d6 d7 d8 d9
            go_wp2
            go_roundw
            case rel => exact ⟨j + 1, KKj, rfl, fun q la b hq' hla hb => (HRW0.out q la b hq' hla hb).kp hg, T0.out.trans (Touch.of_kp hg), X0.out.trans (Hx.of_kp hg hwl0)⟩
            case measure => simp only [lenI]; omega
          · have bp : ((b.pos : Int) == (k : Int)) = false := beq_false_of_ne (by omega)
            have e' : b' = b := by rw [← HB'.out, if_neg hp]
            subst e'
            have RA := hid HRL.out.rd; have RB := hid HOB.out.rd
            have hgw : g < wr.heap.size := hg
            have HCS := hid (show b'.cells.length ≤ 1000000 by omega)
            clear hb'
            go_wp2
            refine wp_region_kp [[], [], [0, 1], [2], [], [], [4, 5], [6], [3, 7], [8]] (fun u => Kp wr u)
              [fun (y : Value) (u : World) => y = (.slice (some ⟨g, 0, none⟩) L.length cW : Value),
               fun (y : Value) (u : World) => y = (.int .i64 j : Value),
               fun (y : Value) (u : World) => y = (.pointer (some ⟨g, j * 3, none⟩) : Value),
               fun (y : Value) (u : World) => y = (.agg #[.int .i64 b'.pos, .int .i64 b'.shape, .slice A2 b'.cells.length c2] : Value),
               fun (y : Value) (u : World) => y = (.slice (some ⟨g8, o8, none⟩) L.length cN : Value),
               fun (y : Value) (u : World) => y = (.int .i64 j : Value),
               fun (y : Value) (u : World) => y = (.pointer (some ⟨g8, o8 + j * 3, none⟩) : Value),
               fun (y : Value) (u : World) => y = (.agg #[.int .i64 b'.pos, .int .i64 b'.shape, .slice A3 b'.cells.length c3] : Value),
               fun (y : Value) (u : World) => y = (.bool true : Value),
               fun (y : Value) (u : World) => y = (.bool false : Value)]
              (by kernel_rfl) (by kernel_rfl) (by kernel_rfl) (by kernel_rfl) ((Kp.refl _).drew) (fun _ _ hk h => h.trans hk) ⟨fun _ _ _ _ h => h, fun _ _ _ _ h => h, fun _ _ _ _ h => h, fun _ _ _ _ h => h, fun _ _ _ _ h => h, fun _ _ _ _ h => h, fun _ _ _ _ h => h, fun _ _ _ _ h => h, fun _ _ _ _ h => h, fun _ _ _ _ h => h, trivial⟩ ⟨?sd0, ?sd1, ?sd2, ?sd3, ?sd4, ?sd5, ?sd6, ?sd7, ?sd8, ?sd9, trivial⟩ ?hEd
            case sd0 =>
              intro x u hg hd K hK
              clear hd
              refine ⟨?_⟩
              simp only [putsFrom, Act.put, List.setIfInBounds_toArray, List.set_cons_zero, List.set_cons_succ, Nat.reduceAdd] at hK ⊢
              go_simp
              exact hK.out _ _ (Kp.refl _) rfl
            case sd1 =>
              intro x u hg hd K hK
              clear hd
              refine ⟨?_⟩
              simp only [putsFrom, Act.put, List.setIfInBounds_toArray, List.set_cons_zero, List.set_cons_succ, Nat.reduceAdd] at hK ⊢
              go_simp
              exact hK.out _ _ (Kp.refl _) rfl
            case sd2 =>
              intro x u hg hd K hK
              have d0 : (x 0) = .slice (some ⟨g, 0, none⟩) L.length cW := And.left hd
              have d1 : (x 1) = .int .i64 j := And.left (And.right hd)
              clear hd
              refine ⟨?_⟩
              simp only [putsFrom, Act.put, List.setIfInBounds_toArray, List.set_cons_zero, List.set_cons_succ, Nat.reduceAdd, d0, d1] at hK ⊢
              go_simp
              exact hK.out _ _ (Kp.refl _) rfl
            case sd3 =>
              intro x u hg hd K hK
              have d2 : (x 2) = .pointer (some ⟨g, j * 3, none⟩) := And.left hd
              clear hd
              have q0 := cell_kp hg hgw D0.out
              have q1 := cell_kp hg hgw D1.out
              have q2 := cell_kp hg hgw D2.out
              refine ⟨?_⟩
              simp only [putsFrom, Act.put, List.setIfInBounds_toArray, List.set_cons_zero, List.set_cons_succ, Nat.reduceAdd, d2] at hK ⊢
              go_simp
              exact hK.out _ _ (Kp.refl _) rfl
            case sd4 =>
              intro x u hg hd K hK
              clear hd
              refine ⟨?_⟩
              simp only [putsFrom, Act.put, List.setIfInBounds_toArray, List.set_cons_zero, List.set_cons_succ, Nat.reduceAdd] at hK ⊢
              go_simp
              exact hK.out _ _ (Kp.refl _) rfl
            case sd5 =>
              intro x u hg hd K hK
              clear hd
              refine ⟨?_⟩
              simp only [putsFrom, Act.put, List.setIfInBounds_toArray, List.set_cons_zero, List.set_cons_succ, Nat.reduceAdd] at hK ⊢
              go_simp
              exact hK.out _ _ (Kp.refl _) rfl
            case sd6 =>
              intro x u hg hd K hK
              have d4 : (x 4) = .slice (some ⟨g8, o8, none⟩) L.length cN := And.left hd
              have d5 : (x 5) = .int .i64 j := And.left (And.right hd)
              clear hd
              refine ⟨?_⟩
              simp only [putsFrom, Act.put, List.setIfInBounds_toArray, List.set_cons_zero, List.set_cons_succ, Nat.reduceAdd, d4, d5] at hK ⊢
              go_simp
              exact hK.out _ _ (Kp.refl _) rfl
            case sd7 =>
              intro x u hg hd K hK
              have d6 : (x 6) = .pointer (some ⟨g8, o8 + j * 3, none⟩) := And.left hd
              clear hd
              have q0 := cell_kp hg hg8 N0.out
              have q1 := cell_kp hg hg8 N1.out
              have q2 := cell_kp hg hg8 N2.out
              refine ⟨?_⟩
              simp only [putsFrom, Act.put, List.setIfInBounds_toArray, List.set_cons_zero, List.set_cons_succ, Nat.reduceAdd, d6] at hK ⊢
              go_simp
              exact hK.out _ _ (Kp.refl _) rfl
            case sd8 =>
              intro x u hg hd K hK
              have d3 : (x 3) = .agg #[.int .i64 b'.pos, .int .i64 b'.shape, .slice A2 b'.cells.length c2] := And.left hd
              have d7 : (x 7) = .agg #[.int .i64 b'.pos, .int .i64 b'.shape, .slice A3 b'.cells.length c3] := And.left (And.right hd)
              clear hd
              refine ⟨?_⟩
              simp only [putsFrom, Act.put, List.setIfInBounds_toArray, List.set_cons_zero, List.set_cons_succ, Nat.reduceAdd, d3, d7] at hK ⊢
              go_simp
              go_at_call 21
              have hc := (same_block u b'.pos b'.shape _ _ b'.cells (RdL.kp CeC.kp RA.out hg) (RdL.kp CeC.kp RB.out hg) HCS.out)
              refine hc.mono ?_
              clear hc
              rintro e u' ⟨rfl, hk⟩
              dsimp only
              exact hK.out _ _ hk rfl
            case sd9 =>
              intro x u hg hd K hK
              have d8 : (x 8) = .bool true := And.left hd
              clear hd
              refine ⟨?_⟩
              simp only [putsFrom, Act.put, List.setIfInBounds_toArray, List.set_cons_zero, List.set_cons_succ, Nat.reduceAdd, d8] at hK ⊢
              go_simp
              exact hK.out _ _ (Kp.refl _) rfl
            intro x u hg he
            have d0 : (x 0) = .slice (some ⟨g, 0, none⟩) L.length cW := And.left he
            have d1 : (x 1) = .int .i64 j := And.left (And.right he)
            have d2 : (x 2) = .pointer (some ⟨g, j * 3, none⟩) := And.left (And.right (And.right he))
            have d3 : (x 3) = .agg #[.int .i64 b'.pos, .int .i64 b'.shape, .slice A2 b'.cells.length c2] := And.left (And.right (And.right (And.right he)))
            have d4 : (x 4) = .slice (some ⟨g8, o8, none⟩) L.length cN := And.left (And.right (And.right (And.right (And.right he))))
            have d5 : (x 5) = .int .i64 j := And.left (And.right (And.right (And.right (And.right (And.right he)))))
            have d6 : (x 6) = .pointer (some ⟨g8, o8 + j * 3, none⟩) := And.left (And.right (And.right (And.right (And.right (And.right (And.right he))))))
            have d7 : (x 7) = .agg #[.int .i64 b'.pos, .int .i64 b'.shape, .slice A3 b'.cells.length c3] := And.left (And.right (And.right (And.right (And.right (And.right (And.right (And.right he)))))))
            have d8 : (x 8) = .bool true := And.left (And.right (And.right (And.right (And.right (And.right (And.right (And.right (And.right he))))))))
            have d9 : (x 9) = .bool false := And.left (And.right (And.right (And.right (And.right (And.right (And.right (And.right (And.right (And.right he)))))))))
            clear he
            refine ⟨?_⟩
            simp only [putsFrom, Act.put, List.setIfInBounds_toArray, List.set_cons_zero, List.set_cons_succ, Nat.reduceAdd, d0, d1, d2, d3, d4, d5, d6, d7, d8, d9]
            clear d0 d1 d2 d3 d4 d5 d6 d7 d8 d9
            go_wp2
            go_roundw
            case rel => exact ⟨j + 1, KKj, rfl, fun q la b hq' hla hb => (HRW.out q la b (by omega) hla hb).kp hg, HTC.out.trans (Touch.of_kp hg), HX.out.trans (Hx.of_kp hg hwl)⟩
            case measure => simp only [lenI]; omega
        · obtain rfl : j = L.length := by omega
          have i1 : ¬ (L.length : Int) < (L.length : Int) := by omega
          go_wp2
          go_ret
          exact ⟨rfl, Below.trans H67.out (Below.mono hhx.below (by have := HH.out.hxlo; simp at this; omega))⟩

/-! ### The row's step (the guide's frame, written by program) -/
set_option maxRecDepth 100000 in
theorem lifted (os : Os) (started : os.Started) (H : Type) (enc : TypeId × Value → H) :
    ReturnsInHanded {} Try.checked os 3 .any (Rows.heapHoldsSpec.pre6 enc Try.prog Try.f3 Rows.heapHoldsRow.domain false) (Rows.heapHoldsSpec.post enc Try.prog Try.f3 false true false false) := by
  refine returnsInHanded_of_change_sized (C := Try.checked) own started (by kernel_rfl) Try.func3
    (ChangeSpec.witness6 (enc := enc) (C := Try.checked) false ⟨#[], #[.int .i64 0, .slice none 0 0, .int .i64 0, .int .i64 0, .agg #[.int .i64 0, .int .i64 0]], []⟩ 8 (by kernel_rfl) (by kernel_rfl) (by kernel_rfl) (by kernel_rfl)) ?_
  intro W base args ds gs before hval0 hW _ hsz0 _
  have hsz : (DataW.weightsEach Try.prog (Try.f3.params.toList ++ Rows.heapHoldsSpec.plain.varTypes Try.prog) (ds ++ gs)).all (· ≤ reachBytes) = true := hsz0
  clear hsz0
  have hval : ∀ (j : Nat) t v, Try.f3.params[j]? = some t → args[j]? = some v → Value.okWide Try.prog W .any base t v := hval0
  have hW' := hW
  obtain ⟨p, q, hA0, hV, rfl, hfz, hnd⟩ := hW
  have hA : DataW.TrodAll enc Try.prog W 0 (fun _ => true) true Try.f3.params.toList args.toList ds p := hA0
  rw [Try.params3] at hA hval hsz
  obtain ⟨v0, vs0, d0, ds0, p0, q0, hargs, rfl, rfl, h0, r0⟩ := trodAll_cons hA
  obtain ⟨v1, vs1, d1, ds1, p1, q1, rfl, rfl, rfl, h1, r1⟩ := trodAll_cons r0
  obtain ⟨v2, vs2, d2, ds2, p2, q2, rfl, rfl, rfl, h2, r2⟩ := trodAll_cons r1
  obtain ⟨v3, vs3, d3, ds3, p3, q3, rfl, rfl, rfl, h3, r3⟩ := trodAll_cons r2
  obtain ⟨v4, vs4, d4, ds4, p4, q4, rfl, rfl, rfl, h4, r4⟩ := trodAll_cons r3
  obtain ⟨rfl, rfl, rfl⟩ := trodAll_nil r4
  obtain rfl : args = #[v0, v1, v2, v3, v4] := by cases args; simp_all
  obtain ⟨rfl, rfl⟩ := trodVars_none hV
  have k0 := h0
  have lt0 : ∀ x ∈ p0, x.block < W.heap.size := by obtain ⟨m, hm⟩ := k0; exact DataW.trod_lt m _ _ _ hm
  obtain ⟨a0, rfl, rfl, rfl, w0⟩ := open_int Try.underlying3 (hval 0 3 v0 rfl rfl) h0
  have k1 := h1
  have lt1 : ∀ x ∈ p1, x.block < W.heap.size := by obtain ⟨m, hm⟩ := k1; exact DataW.trod_lt m _ _ _ hm
  have hz1 : ∀ n ∈ DataW.weights Try.prog 22 d1, n ≤ reachBytes := fun n hn => by
    have := List.all_eq_true.1 hsz _ (DataW.weights_mem_each (j := 1) rfl rfl n hn)
    simpa using this
  obtain ⟨a1, w1⟩ := open_makes (hval 1 22 v1 rfl rfl) h1 hz1
  have k2 := h2
  have lt2 : ∀ x ∈ p2, x.block < W.heap.size := by obtain ⟨m, hm⟩ := k2; exact DataW.trod_lt m _ _ _ hm
  obtain ⟨a2, rfl, rfl, rfl, w2⟩ := open_int Try.underlying3 (hval 2 3 v2 rfl rfl) h2
  have k3 := h3
  have lt3 : ∀ x ∈ p3, x.block < W.heap.size := by obtain ⟨m, hm⟩ := k3; exact DataW.trod_lt m _ _ _ hm
  obtain ⟨a3, rfl, rfl, rfl, w3⟩ := open_int Try.underlying3 (hval 3 3 v3 rfl rfl) h3
  have k4 := h4
  have lt4 : ∀ x ∈ p4, x.block < W.heap.size := by obtain ⟨m, hm⟩ := k4; exact DataW.trod_lt m _ _ _ hm
  have hz4 : ∀ n ∈ DataW.weights Try.prog 24 d4, n ≤ reachBytes := fun n hn => by
    have := List.all_eq_true.1 hsz _ (DataW.weights_mem_each (j := 4) rfl rfl n hn)
    simpa using this
  obtain ⟨a4, w4⟩ := open_cell (hval 4 24 v4 rfl rfl) h4 hz4
  clear hA0 hval0
  simp only [List.append_nil] at hW'
  refine (walk a0 v1 a1 a2 a3 v4 a4 W w0 w1 w2 w3 w4).mono fun e W' ⟨he, bel⟩ => ?_
  subst he
  exact ⟨_, rfl, _, _, _, [], _, [], hW', trodAll_mk1 (shut_bool Try.underlying4 _), (trodAll_cons_mk (Below.trod laidOut (by kernel_rfl) (of_decide_eq_true (by kernel_rfl)) k0 bel lt0) (trodAll_cons_mk (Below.trod laidOut (by kernel_rfl) (of_decide_eq_true (by kernel_rfl)) k1 bel lt1) (trodAll_cons_mk (Below.trod laidOut (by kernel_rfl) (of_decide_eq_true (by kernel_rfl)) k2 bel lt2) (trodAll_cons_mk (Below.trod laidOut (by kernel_rfl) (of_decide_eq_true (by kernel_rfl)) k3 bel lt3) (trodAll_cons_mk (Below.trod laidOut (by kernel_rfl) (of_decide_eq_true (by kernel_rfl)) k4 bel lt4) trodAll_mk0))))), rfl, Below.frame bel _, fun h => by cases h⟩

theorem over : Rows.heapHoldsRow.holds Try.pinned (OpenSpec.ofChange Rows.heapHoldsSpec) :=
  OpenClaim.holds_of_wide 3 Try.f3 rfl rfl rfl rfl rfl rfl rfl ⟨rfl, rfl, rfl, rfl, rfl⟩ rfl rfl rfl rfl rfl (by kernel_rfl) Try.func3 (by kernel_rfl)
    (of_decide_eq_true (by kernel_rfl)) (by unfold Func.isWrapper; rw [if_neg (of_decide_eq_false (by kernel_rfl))]; exact ⟨rfl, rfl⟩)
    (fun os started H enc _ => lifted os started H enc)

/-- THE STATEMENT. -/
theorem proved : Rows.HeapHoldsSaid := over
#print axioms proved

end Go.Proofs.Ytffjfkmnlfndkaa.heapHolds
