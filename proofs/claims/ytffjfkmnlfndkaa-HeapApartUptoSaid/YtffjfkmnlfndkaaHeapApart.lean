/-
  Blocks of a heap lie apart and within the room. Condition: arguments that hold together at most 1048576 values and letters.
-/
import Derived.SizedLaws
import Derived.Deep.CondSized
import Derived.Test.YtffjfkmnlfndkaaRows
import Derived.Test.YtffjfkmnlfndkaaHeapK
namespace Go.Proofs.Ytffjfkmnlfndkaa.heapApart
open Go.ChangeShapes Go.WideShapes Go.ChangeAt Go.RowKit
open Go.ChangeMaps (open_string shut_string)
set_option linter.unusedVariables false

theorem own : ownKnob Try.prog.godebug = none := by kernel_rfl
theorem laidOut : laidOutB Try.prog = true := by kernel_rfl


set_option linter.unusedVariables false
/-- Where the block ahead of the k-th ends. -/
def endAt : Nat → List BlockM → Nat → Nat
  | lo, _, 0 => lo
  | lo, [], _ + 1 => lo
  | _, b :: r, k + 1 => endAt (b.pos + 1 + b.cells.length) r k
theorem endAt_succ : ∀ (l : List BlockM) (lo k : Nat) (b : BlockM), l[k]? = some b → endAt lo l (k + 1) = b.pos + 1 + b.cells.length
  | [], _, _, _, h => by simp at h
  | a :: r, lo, 0, b, h => by simp at h; subst h; unfold endAt; cases r <;> rfl
  | a :: r, lo, k + 1, b, h => by
    have := endAt_succ r (a.pos + 1 + a.cells.length) k b (by simpa using h)
    exact this
theorem tile_ends {S : List Int} : ∀ (l : List BlockM) (lo : Nat), Tile S lo l → ∀ k, endAt lo l k ≤ S.length
  | l, lo, h, 0 => by have := h.le; cases l <;> exact this
  | [], lo, h, k + 1 => h.1
  | a :: r, lo, ⟨_, _, _, _, _, h6⟩, k + 1 => tile_ends r _ h6 k
theorem tile_end {S : List Int} : ∀ (l : List BlockM) (lo : Nat), Tile S lo l → (∀ k b, l[k]? = some b → endAt lo l k ≤ b.pos) ∧ endAt lo l l.length ≤ S.length
  | [], lo, h => ⟨fun k b h => by simp at h, h.1⟩
  | a :: r, lo, ⟨h1, h2, h3, h4, h5, h6⟩ => by
    obtain ⟨i1, i2⟩ := tile_end r _ h6
    refine ⟨fun k b hb => ?_, i2⟩
    cases k with
    | zero => simp at hb; subst hb; exact h1
    | succ k => exact i1 k b (by simpa using hb)
set_option maxRecDepth 20000 in
set_option maxHeartbeats 4000000 in
theorem walk (a0 : Int) (v1 : Value) (a1 : List MakeM) (v2 : Value) (a2 : List Int) (w : World) (w0 : (Lit.int .i64 a0).wf = true) (w1 : RdMakesB w v1 a1) (w2 : RdIntsU w v2 a2) :
    Calls Try.prog 6 #[.int .i64 a0, v1, v2] w fun e w' => e = .returned (.bool true) ∧ Kp w w' := by
  obtain ⟨hlm, _⟩ := id w1
  have W1 := hid w1; have W2 := hid w2
  have HOK : Hid (MadeOk (spotV a0 400).toNat (madeM a0 a1)) := hid (made_ok a0 a1 60)
  have HAT : Hid ((madeM a0 a1).2.length ≤ 60) := hid (madeN_len a0 a1 60)
  obtain ⟨z0, z1⟩ := spotV_bd a0 400 (by omega)
  obtain ⟨N, hN⟩ : ∃ N : Nat, spotV a0 400 = N := ⟨(spotV a0 400).toNat, by omega⟩
  rw [hN] at z0 z1
  have HN := hid hN
  obtain ⟨S, hS⟩ : ∃ S, madeM a0 a1 = S := ⟨_, rfl⟩
  rw [hS] at HOK HAT
  have HS := hid hS
  clear hS hN hlm w1 w2
  have HRO : Hid (∀ u2 w', RdInts u2 w' S.2 → True) := hid (fun _ _ _ => trivial)
  have HAI : Hid (∀ (u : World) (hi : Nat) (v : Value), OwnI u hi v S.2 → RdInts u v S.2) := hid fun u hi v h => OwnI.rd h (by have := HAT.out; omega) (fun p hp => okI_isB (HOK.out.at_ p hp) (by rw [HOK.out.room_]; have := HN.out; omega))
  obtain ⟨R, hR⟩ : ∃ R, chosenM S.2 a2 = R := ⟨_, rfl⟩
  have hRl : R.length ≤ 4000000 := by have := chosenM_len S.2 a2; have h2 := W2.out.2; rw [hR] at this; omega
  have HR := hid hR
  obtain ⟨C1, hC1⟩ : ∃ C, collectH S.1 R = C := ⟨_, rfl⟩
  have hk1 : MadeOk N (C1, []) := by
    have := HOK.out
    rw [HN.out] at this
    rw [← hC1]; exact MadeOk.collect (H := S.1) (at_ := S.2) this R
  obtain ⟨C2, hC2⟩ : ∃ C, allocM C1 2 3 = C := ⟨_, rfl⟩
  have hk2 : MadeOk N (C2, []) := by rw [← hC2]; exact hk1.alloc' 2 3
  have HC1 := hid hC1; have HC2 := hid hC2; have HK1 := hid hk1; have HK2 := hid hk2; have HRL := hid hRl
  clear hC1 hC2 hk1 hk2 hR hRl
  go_enter Try.func6, Try.ntmps6
  go_wp2_with first | (go_at_call 15; go_must (refine (made_any w a0 v1 a1 W1.out).mono ?_); rintro e u1 ⟨⟨hq, hi, v, rfl, hh, hl, hown⟩, hk⟩; rw [HS.out] at hh hown; have HH := hid hh; have HL := hid hl; have HO := hid hown; have HKp := hid hk; clear hh hl hown hk) | (go_at_call 22; go_must (refine (chosen_any u1 v v2 S.2 a2 (HAI.out _ _ _ HO.out) ⟨W2.out.1.kp HKp.out, W2.out.2⟩).mono ?_); rintro e u2 ⟨⟨rv, rfl, hro⟩, hk2⟩; rw [HR.out] at hro; have HRO2 := hid hro; have HKp2 := hid hk2; clear hro hk2) | (go_at_call 23; go_must (refine (collect_any u2 w.heap.size hi hq S.1 rv R (HH.out.kp HKp2.out) HOK.out.sound HRO2.out.rd HRL.out HH.out.hxlo (Nat.le_trans HL.out HKp2.out.le)).mono ?_); rintro e u3 ⟨rfl, hh3, hx3⟩; rw [HC1.out] at hh3; have HH3 := hid hh3; have HX3 := hid hx3; clear hh3 hx3) | (go_at_call 25; go_must (refine (alloc_any u3 w.heap.size hi hq C1 2 3 HH3.out HK1.out.sound (Nat.le_trans HKp.out.le (Nat.le_trans HKp2.out.le HX3.out.size))).mono ?_); rintro e u4 ⟨rfl, hh4, hx4⟩; rw [HC2.out] at hh4; have HH4 := hid hh4; have HX4 := hid hx4; clear hh4 hx4) | (go_at_call 19; go_must (refine (blocks_any u4 w.heap.size hi hq C2 HH4.out).mono ?_); rintro e u5 ⟨⟨bv, rfl, hb5⟩, hk5⟩; have HB5 := hid hb5.out.rd; have HK5 := hid hk5; clear hb5 hk5)
  obtain ⟨L, hL⟩ : ∃ L, blocksM C2.sizes C2.shapes C2.cells = L := ⟨_, rfl⟩
  rw [hL] at HB5
  have hlz : C2.sizes.length = N := HK2.out.lsz.trans HK2.out.room_
  have ht : Tile C2.sizes 0 L := by rw [← hL]; exact tile_all HK2.out.sound HK2.out.lsz.symm
  have ht1 := (tile_end L 0 ht).1
  have ht2 := tile_ends L 0 ht
  rw [hlz] at ht2
  have hlen : L.length ≤ N := by rw [← hL, ← hlz]; exact blks_len _ _ _ _
  have HT1 := hid ht1; have HT2 := hid ht2
  obtain ⟨A, c, rfl, _⟩ := HB5.out.form
  have hN4 : N < 400 := by omega
  have hle5 : w.heap.size ≤ u5.heap.size := Nat.le_trans HKp.out.le (Nat.le_trans HKp2.out.le (Nat.le_trans HX3.out.size (Nat.le_trans HX4.out.size HK5.out.le)))
  have hkp5 : Kp w u5 := Below.trans HKp.out (Below.trans (Below.mono HKp2.out HKp.out.le) (Below.trans HX3.out.below (Below.trans HX4.out.below (Below.mono HK5.out (Nat.le_trans HKp.out.le (Nat.le_trans HKp2.out.le (Nat.le_trans HX3.out.size HX4.out.size)))))))
  have HKP5 := hid hkp5
  clear hL ht ht1 ht2 hlz hkp5
  go_loopw [11, 12] (fun e i wr => ∃ k : Nat, k ≤ L.length ∧ i = .int .i64 k ∧ e = .int .i64 (endAt 0 L k : Nat) ∧ Kp u5 wr) (fun _ i _ => L.length - lenI i)
  case atStart => exact ⟨0, by omega, rfl, by cases L <;> rfl, Kp.refl _⟩
  case round =>
    obtain ⟨k, hk, rfl, rfl, hkp⟩ := hrel
    have HK := hid hkp
    clear hkp
    have he := HT2.out k
    by_cases hlt : k < L.length
    · have i1 : (k : Int) < (L.length : Int) := by omega
      have j0 : (0 : Int) ≤ (k : Int) := by omega
      obtain ⟨b, hb⟩ : ∃ b, L[k]? = some b := ⟨_, List.getElem?_eq_getElem hlt⟩
      obtain ⟨g, off, la, rfl, hg, c0, c1, c2, ho⟩ := rd_blk (HB5.out.kp CeB.kp HK.out) hb
      obtain ⟨A2, c3, rfl⟩ := ho.form
      have e1 := HT1.out k b hb
      have e2 := HT2.out (k + 1)
      have e3 := endAt_succ L 0 k b hb
      rw [e3] at e2
      have HE3 := hid e3
      obtain ⟨z, hz⟩ : ∃ z, endAt 0 L k = z := ⟨_, rfl⟩
      rw [hz] at e1 he ⊢
      obtain ⟨q, hq'⟩ : ∃ q, b.pos = q := ⟨_, rfl⟩
      obtain ⟨m, hm⟩ : ∃ m, b.cells.length = m := ⟨_, rfl⟩
      rw [hq', hm] at e2 HE3
      rw [hq'] at c0 e1
      rw [hm] at c2
      have i3 : ¬ ((q : Int) < (z : Int)) := by omega
      have HG := hid hg
      clear e3 hz hq' hm ho hb
      go_wp2
      have e5 : IntKind.i64.wrap ((q : Int) + 1) = (q : Int) + 1 := by rw [IntKind.wrap_i64]; omega
      have e6 : IntKind.i64.wrap ((q : Int) + 1 + (m : Int)) = (q : Int) + 1 + (m : Int) := by rw [IntKind.wrap_i64]; omega
      go_quiet (fail)
      go_wp2
      go_roundw
      case rel => exact ⟨k + 1, by omega, rfl, by rw [HE3.out]; simp, HK.out.drewN nq⟩
      case measure => simp only [lenI]; omega
    · obtain rfl : k = L.length := by omega
      have i1 : ¬ (L.length : Int) < (L.length : Int) := by omega
      have i2 : ((endAt 0 L L.length : Nat) : Int) ≤ (N : Int) := by omega
      go_wp2_with (go_at_call 17; go_must (refine (spot_any a0 400 _ (by decide) (by decide)).mono ?_); rintro e w4 ⟨rfl, rfl⟩; rw [HN.out])
      go_ret
      exact ⟨rfl, Below.trans HKP5.out (Below.mono HK.out hle5)⟩

/-! ### The row's step (the guide's frame, written by program) -/
set_option maxRecDepth 100000 in
theorem lifted (os : Os) (started : os.Started) (H : Type) (enc : TypeId × Value → H) (F : Stop.Interp) :
    ReturnsInHanded {} Try.checked os 6 .any ((Rows.OpenSpec.upto Rows.heapApartSpec).pre6 enc Try.prog Try.f6 Rows.heapApartUptoRow.domain false) (((Rows.OpenSpec.upto Rows.heapApartSpec).at F).post enc Try.prog Try.f6 false true false false) := by
  refine returnsInHanded_of_cond_sized (C := Try.checked) (s := Rows.OpenSpec.upto Rows.heapApartSpec) (k := Rows.uptoSmall) rfl own started (by kernel_rfl) Try.func6
    (OpenSpec.witness (enc := enc) (C := Try.checked) (s := Rows.OpenSpec.upto Rows.heapApartSpec) (k := Rows.uptoSmall) rfl false ⟨#[], #[.int .i64 0, .slice none 0 0, .slice none 0 0], []⟩ 8 (by kernel_rfl) (by kernel_rfl) (by kernel_rfl)
      (x := ([.lit (.int .i64 0), .nil, .nil], [], [])) (by kernel_rfl) rfl (by kernel_rfl)) ?_
  intro W base args ds gs before hval0 hW _ hk0 hsz0 _
  have hsz : (DataW.weightsEach Try.prog (Try.f6.params.toList ++ (Rows.OpenSpec.upto Rows.heapApartSpec).bare.plain.varTypes Try.prog) (ds ++ gs)).all (· ≤ reachBytes) = true := hsz0
  clear hsz0
  have hval : ∀ (j : Nat) t v, Try.f6.params[j]? = some t → args[j]? = some v → Value.okWide Try.prog W .any base t v := hval0
  have hW' := hW
  obtain ⟨p, q, hA0, hV, rfl, hfz, hnd⟩ := hW
  have hA : DataW.TrodAll enc Try.prog W 0 (fun _ => true) true Try.f6.params.toList args.toList ds p := hA0
  rw [Try.params6] at hA hval hsz
  obtain ⟨v0, vs0, d0, ds0, p0, q0, hargs, rfl, rfl, h0, r0⟩ := trodAll_cons hA
  obtain ⟨v1, vs1, d1, ds1, p1, q1, rfl, rfl, rfl, h1, r1⟩ := trodAll_cons r0
  obtain ⟨v2, vs2, d2, ds2, p2, q2, rfl, rfl, rfl, h2, r2⟩ := trodAll_cons r1
  obtain ⟨rfl, rfl, rfl⟩ := trodAll_nil r2
  obtain rfl : args = #[v0, v1, v2] := by cases args; simp_all
  obtain ⟨rfl, rfl⟩ := trodVars_none hV
  have hbk : Rows.uptoBulkAll [d0, d1, d2] ≤ 1048576 := of_decide_eq_true hk0
  simp only [Rows.uptoBulkAll] at hbk
  have hb0 : Rows.uptoBulk d0 ≤ 1048576 := by omega
  have hb1 : Rows.uptoBulk d1 ≤ 1048576 := by omega
  have hb2 : Rows.uptoBulk d2 ≤ 1048576 := by omega
  clear hk0 hbk
  have k0 := h0
  have lt0 : ∀ x ∈ p0, x.block < W.heap.size := by obtain ⟨m, hm⟩ := k0; exact DataW.trod_lt m _ _ _ hm
  obtain ⟨a0, rfl, rfl, rfl, w0⟩ := open_int Try.underlying3 (hval 0 3 v0 rfl rfl) h0
  have k1 := h1
  have lt1 : ∀ x ∈ p1, x.block < W.heap.size := by obtain ⟨m, hm⟩ := k1; exact DataW.trod_lt m _ _ _ hm
  have hz1 : ∀ n ∈ DataW.weights Try.prog 22 d1, n ≤ reachBytes := fun n hn => by
    have := List.all_eq_true.1 hsz _ (DataW.weights_mem_each (j := 1) rfl rfl n hn)
    simpa using this
  obtain ⟨a1, w1⟩ := open_makes (hval 1 22 v1 rfl rfl) h1 hz1
  have k2 := h2
  have lt2 : ∀ x ∈ p2, x.block < W.heap.size := by obtain ⟨m, hm⟩ := k2; exact DataW.trod_lt m _ _ _ hm
  have hz2 : ∀ n ∈ DataW.weights Try.prog 26 d2, n ≤ reachBytes := fun n hn => by
    have := List.all_eq_true.1 hsz _ (DataW.weights_mem_each (j := 2) rfl rfl n hn)
    simpa using this
  obtain ⟨a2, w2⟩ := open_intsU (hval 2 26 v2 rfl rfl) h2 hz2 hb2
  clear hA0 hval0
  simp only [List.append_nil] at hW'
  refine (walk a0 v1 a1 v2 a2 W w0 w1 w2).mono fun e W' ⟨he, bel⟩ => ?_
  subst he
  exact ⟨_, rfl, _, _, _, [], _, [], hW', trodAll_mk1 (shut_bool Try.underlying4 _), (trodAll_cons_mk (Below.trod laidOut (by kernel_rfl) (of_decide_eq_true (by kernel_rfl)) k0 bel lt0) (trodAll_cons_mk (Below.trod laidOut (by kernel_rfl) (of_decide_eq_true (by kernel_rfl)) k1 bel lt1) (trodAll_cons_mk (Below.trod laidOut (by kernel_rfl) (of_decide_eq_true (by kernel_rfl)) k2 bel lt2) trodAll_mk0))), rfl, Below.frame bel _, fun h => by cases h⟩

theorem over : Rows.heapApartUptoRow.holds Try.pinned (Rows.OpenSpec.upto Rows.heapApartSpec) :=
  OpenClaim.holds_of_cond 6 Try.f6 rfl rfl rfl rfl rfl rfl rfl ⟨rfl, rfl, rfl, rfl, rfl⟩ rfl rfl rfl rfl rfl (by kernel_rfl) Try.func6 (by kernel_rfl)
    (of_decide_eq_true (by kernel_rfl)) (by unfold Func.isWrapper; rw [if_neg (of_decide_eq_false (by kernel_rfl))]; exact ⟨rfl, rfl⟩)
    (fun os started H enc _ F => lifted os started H enc F)

/-- THE STATEMENT. -/
theorem proved : Rows.HeapApartUptoSaid := over
#print axioms proved

end Go.Proofs.Ytffjfkmnlfndkaa.heapApart
