/-
  A block is refused just where no run of free cells is long enough, and else stands in the first one. Condition: arguments that hold together at most 1048576 values and letters.
-/
import Derived.SizedLaws
import Derived.Deep.CondSized
import Derived.Test.YtffjfkmnlfndkaaRows
import Derived.Test.YtffjfkmnlfndkaaHeapK
namespace Go.Proofs.Ytffjfkmnlfndkaa.heapFits
open Go.ChangeShapes Go.WideShapes Go.ChangeAt Go.RowKit
open Go.ChangeMaps (open_string shut_string)
set_option linter.unusedVariables false

theorem own : ownKnob Try.prog.godebug = none := by kernel_rfl
theorem laidOut : laidOutB Try.prog = true := by kernel_rfl


set_option linter.unusedVariables false
/-- Where the search stands behind k blocks. -/
def endAt : Nat → List BlockM → Nat → Nat
  | lo, _, 0 => lo
  | lo, [], _ + 1 => lo
  | _, b :: r, k + 1 => endAt (b.pos + 1 + b.cells.length) r k
theorem endAt_succ : ∀ (l : List BlockM) (lo k : Nat) (b : BlockM), l[k]? = some b → endAt lo l (k + 1) = b.pos + 1 + b.cells.length
  | [], _, _, _, h => by simp at h
  | a :: r, lo, 0, b, h => by simp at h; subst h; unfold endAt; cases r <;> rfl
  | a :: r, lo, k + 1, b, h => by
    have := endAt_succ r (a.pos + 1 + a.cells.length) k b (by simpa using h)
    exact this
theorem tile_ends {S : List Int} : ∀ (l : List BlockM) (lo : Nat), Tile S lo l → ∀ k, endAt lo l k ≤ S.length
  | l, lo, h, 0 => by have := h.le; cases l <;> exact this
  | [], lo, h, k + 1 => h.1
  | a :: r, lo, ⟨_, _, _, _, _, h6⟩, k + 1 => tile_ends r _ h6 k
theorem want_drop (n : Int) (room : Nat) : ∀ (l : List BlockM) (lo k : Nat) (b : BlockM), l[k]? = some b → wantM n room (endAt lo l k) (l.drop k) = if n ≤ (b.pos : Int) - endAt lo l k then some (endAt lo l k) else wantM n room (endAt lo l (k + 1)) (l.drop (k + 1))
  | [], _, _, _, h => by simp at h
  | a :: r, lo, 0, b, h => by
    simp at h; subst h
    have e1 : endAt lo (a :: r) 0 = lo := rfl
    have e2 : endAt lo (a :: r) 1 = a.pos + 1 + a.cells.length := by unfold endAt; cases r <;> rfl
    rw [e1, e2]; rfl
  | a :: r, lo, k + 1, b, h => want_drop n room r (a.pos + 1 + a.cells.length) k b (by simpa using h)
theorem want_end (n : Int) (room : Nat) (l : List BlockM) (lo : Nat) : wantM n room (endAt lo l l.length) (l.drop l.length) = if n ≤ (room : Int) - endAt lo l l.length then some (endAt lo l l.length) else none := by rw [List.drop_length]; rfl
set_option maxRecDepth 20000 in
set_option maxHeartbeats 4000000 in
theorem walk (a0 : Int) (v1 : Value) (a1 : List MakeM) (v2 : Value) (a2 : List Int) (a3 : Int) (w : World) (w0 : (Lit.int .i64 a0).wf = true) (w1 : RdMakesB w v1 a1) (w2 : RdIntsU w v2 a2) (w3 : (Lit.int .i64 a3).wf = true) :
    Calls Try.prog 7 #[.int .i64 a0, v1, v2, .int .i64 a3] w fun e w' => e = .returned (.bool true) ∧ Kp w w' := by
  obtain ⟨hlm, _⟩ := id w1
  have W1 := hid w1; have W2 := hid w2
  have HOK : Hid (MadeOk (spotV a0 400).toNat (madeM a0 a1)) := hid (made_ok a0 a1 60)
  have HAT : Hid ((madeM a0 a1).2.length ≤ 60) := hid (madeN_len a0 a1 60)
  obtain ⟨z0, z1⟩ := spotV_bd a0 400 (by omega)
  obtain ⟨N, hN⟩ : ∃ N : Nat, spotV a0 400 = N := ⟨(spotV a0 400).toNat, by omega⟩
  rw [hN] at z0 z1
  have HN := hid hN
  obtain ⟨S, hS⟩ : ∃ S, madeM a0 a1 = S := ⟨_, rfl⟩
  rw [hS] at HOK HAT
  have HS := hid hS
  clear hS hN hlm w1 w2
  have HRO : Hid (∀ u2 w', RdInts u2 w' S.2 → True) := hid (fun _ _ _ => trivial)
  have HAI : Hid (∀ (u : World) (hi : Nat) (v : Value), OwnI u hi v S.2 → RdInts u v S.2) := hid fun u hi v h => OwnI.rd h (by have := HAT.out; omega) (fun p hp => okI_isB (HOK.out.at_ p hp) (by rw [HOK.out.room_]; have := HN.out; omega))
  obtain ⟨R, hR⟩ : ∃ R, chosenM S.2 a2 = R := ⟨_, rfl⟩
  have hRl : R.length ≤ 4000000 := by have := chosenM_len S.2 a2; have h2 := W2.out.2; rw [hR] at this; omega
  have HR := hid hR
  obtain ⟨C1, hC1⟩ : ∃ C, collectH S.1 R = C := ⟨_, rfl⟩
  have hk1 : MadeOk N (C1, []) := by
    have := HOK.out
    rw [HN.out] at this
    rw [← hC1]; exact MadeOk.collect (H := S.1) (at_ := S.2) this R
  have HC1 := hid hC1; have HK1 := hid hk1; have HRL := hid hRl
  clear hC1 hk1 hR hRl
  obtain ⟨n0, n1⟩ := spotV_bd a3 60 (by omega)
  obtain ⟨n, hn⟩ : ∃ n : Nat, spotV a3 60 = n := ⟨(spotV a3 60).toNat, by omega⟩
  rw [hn] at n0 n1
  have HNN := hid hn
  clear hn
  go_enter Try.func7, Try.ntmps7
  go_wp2_with first | (go_at_call 15; go_must (refine (made_any w a0 v1 a1 W1.out).mono ?_); rintro e u1 ⟨⟨hq, hi, v, rfl, hh, hl, hown⟩, hk⟩; rw [HS.out] at hh hown; have HH := hid hh; have HL := hid hl; have HO := hid hown; have HKp := hid hk; clear hh hl hown hk) | (go_at_call 22; go_must (refine (chosen_any u1 v v2 S.2 a2 (HAI.out _ _ _ HO.out) ⟨W2.out.1.kp HKp.out, W2.out.2⟩).mono ?_); rintro e u2 ⟨⟨rv, rfl, hro⟩, hk2⟩; rw [HR.out] at hro; have HRO2 := hid hro; have HKp2 := hid hk2; clear hro hk2) | (go_at_call 23; go_must (refine (collect_any u2 w.heap.size hi hq S.1 rv R (HH.out.kp HKp2.out) HOK.out.sound HRO2.out.rd HRL.out HH.out.hxlo (Nat.le_trans HL.out HKp2.out.le)).mono ?_); rintro e u3 ⟨rfl, hh3, hx3⟩; rw [HC1.out] at hh3; have HH3 := hid hh3; have HX3 := hid hx3; clear hh3 hx3) | (go_at_call 17; go_must (refine (spot_any _ _ _ (by decide) (by decide)).mono ?_); rintro e w4 ⟨rfl, rfl⟩; rw [HNN.out]) | (go_at_call 19; go_must (refine (blocks_any u3 w.heap.size hi hq C1 HH3.out).mono ?_); rintro e u5 ⟨⟨bv, rfl, hb5⟩, hk5⟩; have HB5 := hid hb5.out.rd; have HK5 := hid hk5; clear hb5 hk5)
  obtain ⟨L, hL⟩ : ∃ L, blocksM C1.sizes C1.shapes C1.cells = L := ⟨_, rfl⟩
  rw [hL] at HB5
  have hlz : C1.sizes.length = N := HK1.out.lsz.trans HK1.out.room_
  have ht : Tile C1.sizes 0 L := by rw [← hL]; exact tile_all HK1.out.sound HK1.out.lsz.symm
  have ht2 := tile_ends L 0 ht
  rw [hlz] at ht2
  have hlen : L.length ≤ N := by rw [← hL, ← hlz]; exact blks_len _ _ _ _
  have hwant : wantM ((n : Int) + 1) N 0 L = findM C1.sizes ((n : Int) + 1) := by
    rw [← hL, ← hlz, want_find HK1.out.sound HK1.out.lsz.symm (by omega)]
    unfold findM; rw [find_eq]
  have HW := hid hwant
  have HT2 := hid ht2
  obtain ⟨A, c, rfl, _⟩ := HB5.out.form
  have hN4 : N < 400 := by omega
  have hle5 : w.heap.size ≤ u5.heap.size := Nat.le_trans HKp.out.le (Nat.le_trans HKp2.out.le (Nat.le_trans HX3.out.size HK5.out.le))
  have hkp5 : Kp w u5 := Below.trans HKp.out (Below.trans (Below.mono HKp2.out HKp.out.le) (Below.trans HX3.out.below (Below.mono HK5.out (Nat.le_trans HKp.out.le (Nat.le_trans HKp2.out.le HX3.out.size)))))
  have HKP5 := hid hkp5
  clear hL ht ht2 hlz hkp5 hwant
  go_loopw [13, 14, 15] (fun wv fv i wr => ∃ k : Nat, ∃ want fr : Int, i = .int .i64 k ∧ wv = .int .i64 want ∧ fv = .int .i64 fr ∧ k ≤ L.length + 1 ∧ ((want = -1 ∧ k ≤ L.length ∧ fr = (endAt 0 L k : Nat) ∧ wantM ((n : Int) + 1) N 0 L = wantM ((n : Int) + 1) N (endAt 0 L k) (L.drop k)) ∨ (∃ p : Nat, want = p ∧ wantM ((n : Int) + 1) N 0 L = some p) ∨ (want = -1 ∧ k = L.length + 1 ∧ wantM ((n : Int) + 1) N 0 L = none)) ∧ Kp u5 wr) (fun _ _ i _ => L.length + 1 - lenI i)
  case atStart => exact ⟨0, -1, 0, rfl, rfl, rfl, by omega, .inl ⟨rfl, by omega, by cases L <;> rfl, by cases L <;> rfl⟩, Kp.refl _⟩
  case round =>
    obtain ⟨k, want, fr, rfl, rfl, rfl, hk, hcase, hkp⟩ := hrel
    have HK := hid hkp
    clear hkp
    rcases hcase with ⟨rfl, hk1, rfl, hw⟩ | ⟨p, rfl, hw⟩ | ⟨rfl, rfl, hw⟩
    · have he := HT2.out k
      by_cases hlt : k < L.length
      · have i1 : (k : Int) < (L.length : Int) := by omega
        have i2 : (k : Int) ≤ (L.length : Int) := by omega
        have j0 : (0 : Int) ≤ (k : Int) := by omega
        obtain ⟨b, hb⟩ : ∃ b, L[k]? = some b := ⟨_, List.getElem?_eq_getElem hlt⟩
        obtain ⟨g, off, la, rfl, hg, c0, c1, c2, ho⟩ := rd_blk (HB5.out.kp CeB.kp HK.out) hb
        obtain ⟨A2, c3, rfl⟩ := ho.form
        have e2 := HT2.out (k + 1)
        have e3 := endAt_succ L 0 k b hb
        have hd := want_drop ((n : Int) + 1) N L 0 k b hb
        rw [e3] at e2
        have HE3 := hid e3
        obtain ⟨z, hz⟩ : ∃ z, endAt 0 L k = z := ⟨_, rfl⟩
        rw [hz] at he hd hw ⊢
        obtain ⟨q, hq'⟩ : ∃ q, b.pos = q := ⟨_, rfl⟩
        obtain ⟨m, hm⟩ : ∃ m, b.cells.length = m := ⟨_, rfl⟩
        rw [hq', hm] at e2 HE3
        rw [hq'] at c0 hd
        rw [hm] at c2
        rw [HE3.out] at hd
        have HG := hid hg; have HD := hid hd; have HWW := hid hw
        have e5 : IntKind.i64.wrap ((q : Int) + 1) = (q : Int) + 1 := by rw [IntKind.wrap_i64]; omega
        have e6 : IntKind.i64.wrap ((q : Int) + 1 + (m : Int)) = (q : Int) + 1 + (m : Int) := by rw [IntKind.wrap_i64]; omega
        clear e3 hz hq' hm ho hb hd hw
        by_cases hfit : (n : Int) + 1 ≤ (q : Int) - (z : Int)
        · go_wp2_with first | (go_at_call 17; go_must (refine (spot_any _ _ _ (by decide) (by decide)).mono ?_); rintro e w4 ⟨rfl, rfl⟩; rw [HN.out])
          go_quiet (fail)
          go_wp2
          go_roundw
          case rel => exact ⟨k + 1, z, (q : Int) + 1 + m, rfl, rfl, rfl, by omega, .inr (.inl ⟨z, rfl, by rw [HWW.out, HD.out, if_pos hfit]⟩), HK.out.drewN nq⟩
          case measure => simp only [lenI]; omega
        · go_wp2_with first | (go_at_call 17; go_must (refine (spot_any _ _ _ (by decide) (by decide)).mono ?_); rintro e w4 ⟨rfl, rfl⟩; rw [HN.out])
          go_quiet (fail)
          go_wp2
          go_roundw
          case rel => exact ⟨k + 1, -1, (q : Int) + 1 + m, rfl, rfl, rfl, by omega, .inl ⟨rfl, by omega, by rw [HE3.out]; simp, by rw [HWW.out, HD.out, if_neg (by omega), HE3.out]⟩, HK.out.drewN nq⟩
          case measure => simp only [lenI]; omega
      · obtain rfl : k = L.length := by omega
        have i1 : ¬ (L.length : Int) < (L.length : Int) := by omega
        have hd := want_end ((n : Int) + 1) N L 0
        obtain ⟨z, hz⟩ : ∃ z, endAt 0 L L.length = z := ⟨_, rfl⟩
        rw [hz] at he hd hw ⊢
        have HD := hid hd; have HWW := hid hw
        clear hd hw hz
        by_cases hfit : (n : Int) + 1 ≤ (N : Int) - (z : Int)
        · go_wp2_with first | (go_at_call 17; go_must (refine (spot_any _ _ _ (by decide) (by decide)).mono ?_); rintro e w4 ⟨rfl, rfl⟩; rw [HN.out])
          go_roundw
          case rel => exact ⟨L.length + 1, z, z, rfl, rfl, rfl, by omega, .inr (.inl ⟨z, rfl, by rw [HWW.out, HD.out, if_pos hfit]⟩), HK.out⟩
          case measure => simp only [lenI]; omega
        · go_wp2_with first | (go_at_call 17; go_must (refine (spot_any _ _ _ (by decide) (by decide)).mono ?_); rintro e w4 ⟨rfl, rfl⟩; rw [HN.out])
          go_roundw
          case rel => exact ⟨L.length + 1, -1, z, rfl, rfl, rfl, by omega, .inr (.inr ⟨rfl, rfl, by rw [HWW.out, HD.out, if_neg (by omega)]⟩), HK.out⟩
          case measure => simp only [lenI]; omega
    · have hal : allocC C1 1 n = ((p : Int), 0) := by
        unfold allocC; rw [if_neg (by omega), if_neg (by omega), ← HW.out, hw]
      have HAL := hid hal; have HWW := hid hw
      have hle6 : w.heap.size ≤ wr.heap.size := Nat.le_trans hle5 HK.out.le
      have j1 : ¬ ((p : Int) < 0) := by omega
      have HHr := hid ((HH3.out.kp HK5.out).kp HK.out)
      clear hal hw
      by_cases hkl : (k : Int) ≤ (L.length : Int)
      all_goals
        go_wp2_with first | (go_at_call 25; go_must (refine (alloc_any wr w.heap.size hi hq C1 1 n HHr.out HK1.out.sound hle6).mono ?_); rintro e u4 ⟨rfl, hh4, hx4⟩; rw [HAL.out]; have HX4 := hid hx4; clear hh4 hx4)
        go_ret
        exact ⟨rfl, Below.trans HKP5.out (Below.trans (Below.mono HK.out hle5) HX4.out.below)⟩
    · have hal : allocC C1 1 n = (0, 15) := by
        unfold allocC; rw [if_neg (by omega), if_neg (by omega), ← HW.out, hw]
      have HAL := hid hal; have HWW := hid hw
      have hle6 : w.heap.size ≤ wr.heap.size := Nat.le_trans hle5 HK.out.le
      have HHr := hid ((HH3.out.kp HK5.out).kp HK.out)
      have i1 : ¬ (((L.length + 1 : Nat) : Int) ≤ (L.length : Int)) := by omega
      clear hal hw
      go_wp2_with first | (go_at_call 25; go_must (refine (alloc_any wr w.heap.size hi hq C1 1 n HHr.out HK1.out.sound hle6).mono ?_); rintro e u4 ⟨rfl, hh4, hx4⟩; rw [HAL.out]; have HX4 := hid hx4; clear hh4 hx4)
      go_ret
      exact ⟨rfl, Below.trans HKP5.out (Below.trans (Below.mono HK.out hle5) HX4.out.below)⟩

/-! ### The row's step (the guide's frame, written by program) -/
set_option maxRecDepth 100000 in
theorem lifted (os : Os) (started : os.Started) (H : Type) (enc : TypeId × Value → H) (F : Stop.Interp) :
    ReturnsInHanded {} Try.checked os 7 .any ((Rows.OpenSpec.upto Rows.heapFitsSpec).pre6 enc Try.prog Try.f7 Rows.heapFitsUptoRow.domain false) (((Rows.OpenSpec.upto Rows.heapFitsSpec).at F).post enc Try.prog Try.f7 false true false false) := by
  refine returnsInHanded_of_cond_sized (C := Try.checked) (s := Rows.OpenSpec.upto Rows.heapFitsSpec) (k := Rows.uptoSmall) rfl own started (by kernel_rfl) Try.func7
    (OpenSpec.witness (enc := enc) (C := Try.checked) (s := Rows.OpenSpec.upto Rows.heapFitsSpec) (k := Rows.uptoSmall) rfl false ⟨#[], #[.int .i64 0, .slice none 0 0, .slice none 0 0, .int .i64 0], []⟩ 8 (by kernel_rfl) (by kernel_rfl) (by kernel_rfl)
      (x := ([.lit (.int .i64 0), .nil, .nil, .lit (.int .i64 0)], [], [])) (by kernel_rfl) rfl (by kernel_rfl)) ?_
  intro W base args ds gs before hval0 hW _ hk0 hsz0 _
  have hsz : (DataW.weightsEach Try.prog (Try.f7.params.toList ++ (Rows.OpenSpec.upto Rows.heapFitsSpec).bare.plain.varTypes Try.prog) (ds ++ gs)).all (· ≤ reachBytes) = true := hsz0
  clear hsz0
  have hval : ∀ (j : Nat) t v, Try.f7.params[j]? = some t → args[j]? = some v → Value.okWide Try.prog W .any base t v := hval0
  have hW' := hW
  obtain ⟨p, q, hA0, hV, rfl, hfz, hnd⟩ := hW
  have hA : DataW.TrodAll enc Try.prog W 0 (fun _ => true) true Try.f7.params.toList args.toList ds p := hA0
  rw [Try.params7] at hA hval hsz
  obtain ⟨v0, vs0, d0, ds0, p0, q0, hargs, rfl, rfl, h0, r0⟩ := trodAll_cons hA
  obtain ⟨v1, vs1, d1, ds1, p1, q1, rfl, rfl, rfl, h1, r1⟩ := trodAll_cons r0
  obtain ⟨v2, vs2, d2, ds2, p2, q2, rfl, rfl, rfl, h2, r2⟩ := trodAll_cons r1
  obtain ⟨v3, vs3, d3, ds3, p3, q3, rfl, rfl, rfl, h3, r3⟩ := trodAll_cons r2
  obtain ⟨rfl, rfl, rfl⟩ := trodAll_nil r3
  obtain rfl : args = #[v0, v1, v2, v3] := by cases args; simp_all
  obtain ⟨rfl, rfl⟩ := trodVars_none hV
  have hbk : Rows.uptoBulkAll [d0, d1, d2, d3] ≤ 1048576 := of_decide_eq_true hk0
  simp only [Rows.uptoBulkAll] at hbk
  have hb0 : Rows.uptoBulk d0 ≤ 1048576 := by omega
  have hb1 : Rows.uptoBulk d1 ≤ 1048576 := by omega
  have hb2 : Rows.uptoBulk d2 ≤ 1048576 := by omega
  have hb3 : Rows.uptoBulk d3 ≤ 1048576 := by omega
  clear hk0 hbk
  have k0 := h0
  have lt0 : ∀ x ∈ p0, x.block < W.heap.size := by obtain ⟨m, hm⟩ := k0; exact DataW.trod_lt m _ _ _ hm
  obtain ⟨a0, rfl, rfl, rfl, w0⟩ := open_int Try.underlying3 (hval 0 3 v0 rfl rfl) h0
  have k1 := h1
  have lt1 : ∀ x ∈ p1, x.block < W.heap.size := by obtain ⟨m, hm⟩ := k1; exact DataW.trod_lt m _ _ _ hm
  have hz1 : ∀ n ∈ DataW.weights Try.prog 22 d1, n ≤ reachBytes := fun n hn => by
    have := List.all_eq_true.1 hsz _ (DataW.weights_mem_each (j := 1) rfl rfl n hn)
    simpa using this
  obtain ⟨a1, w1⟩ := open_makes (hval 1 22 v1 rfl rfl) h1 hz1
  have k2 := h2
  have lt2 : ∀ x ∈ p2, x.block < W.heap.size := by obtain ⟨m, hm⟩ := k2; exact DataW.trod_lt m _ _ _ hm
  have hz2 : ∀ n ∈ DataW.weights Try.prog 26 d2, n ≤ reachBytes := fun n hn => by
    have := List.all_eq_true.1 hsz _ (DataW.weights_mem_each (j := 2) rfl rfl n hn)
    simpa using this
  obtain ⟨a2, w2⟩ := open_intsU (hval 2 26 v2 rfl rfl) h2 hz2 hb2
  have k3 := h3
  have lt3 : ∀ x ∈ p3, x.block < W.heap.size := by obtain ⟨m, hm⟩ := k3; exact DataW.trod_lt m _ _ _ hm
  obtain ⟨a3, rfl, rfl, rfl, w3⟩ := open_int Try.underlying3 (hval 3 3 v3 rfl rfl) h3
  clear hA0 hval0
  simp only [List.append_nil] at hW'
  refine (walk a0 v1 a1 v2 a2 a3 W w0 w1 w2 w3).mono fun e W' ⟨he, bel⟩ => ?_
  subst he
  exact ⟨_, rfl, _, _, _, [], _, [], hW', trodAll_mk1 (shut_bool Try.underlying4 _), (trodAll_cons_mk (Below.trod laidOut (by kernel_rfl) (of_decide_eq_true (by kernel_rfl)) k0 bel lt0) (trodAll_cons_mk (Below.trod laidOut (by kernel_rfl) (of_decide_eq_true (by kernel_rfl)) k1 bel lt1) (trodAll_cons_mk (Below.trod laidOut (by kernel_rfl) (of_decide_eq_true (by kernel_rfl)) k2 bel lt2) (trodAll_cons_mk (Below.trod laidOut (by kernel_rfl) (of_decide_eq_true (by kernel_rfl)) k3 bel lt3) trodAll_mk0)))), rfl, Below.frame bel _, fun h => by cases h⟩

theorem over : Rows.heapFitsUptoRow.holds Try.pinned (Rows.OpenSpec.upto Rows.heapFitsSpec) :=
  OpenClaim.holds_of_cond 7 Try.f7 rfl rfl rfl rfl rfl rfl rfl ⟨rfl, rfl, rfl, rfl, rfl⟩ rfl rfl rfl rfl rfl (by kernel_rfl) Try.func7 (by kernel_rfl)
    (of_decide_eq_true (by kernel_rfl)) (by unfold Func.isWrapper; rw [if_neg (of_decide_eq_false (by kernel_rfl))]; exact ⟨rfl, rfl⟩)
    (fun os started H enc _ F => lifted os started H enc F)

/-- THE STATEMENT. -/
theorem proved : Rows.HeapFitsUptoSaid := over
#print axioms proved

end Go.Proofs.Ytffjfkmnlfndkaa.heapFits
