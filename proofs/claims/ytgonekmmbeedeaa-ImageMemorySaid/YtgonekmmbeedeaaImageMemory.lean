/-
  The law ImageMemory answers true for every code, all bytes and every number. No condition.
-/
import Derived.SizedLaws
import Derived.Deep.CondSized
import Derived.Test.YtgonekmmbeedeaaRows
import Derived.Test.YtgonekmmbeedeaaStayC
import Derived.Test.YtgonekmmbeedeaaImgPk
import Derived.Test.YtgonekmmbeedeaaImgU
import Derived.Test.YtgonekmmbeedeaaNumber
namespace Go.Proofs.Ytgonekmmbeedeaa.imageMemory
open Go.ChangeShapes Go.WideShapes Go.ChangeAt Go.RowKit
open Go.ChangeMaps (open_string shut_string)
set_option linter.unusedVariables false
set_option linter.unusedSimpArgs false

theorem own : ownKnob Try.prog.godebug = none := by kernel_rfl
theorem laidOut : laidOutB Try.prog = true := by kernel_rfl


/-- The block g holds these bytes, k bytes 77, and bytes 0 up to twelve. -/
def MkB (w : World) (g : Nat) (bs : List UInt8) (k : Nat) : Prop := w.heap[g]? = some (.cells ((bs ++ List.replicate k 77 ++ List.replicate (12 - k) 0).map byteV).toArray 5 (0, 0))
theorem MkB.keep {w w' : World} {g B k : Nat} {bs : List UInt8} (h : MkB w g bs k) (hk : Below B w w') (hg : g < B) : MkB w' g bs k := by
  unfold MkB at *
  rw [hk.block g hg]; exact h
theorem MkB.kp {w w' : World} {g k : Nat} {bs : List UInt8} (h : MkB w g bs k) (hk : Kp w w') : MkB w' g bs k := by
  unfold MkB at *
  rw [hk.block g (blk_lt h)]; exact h
theorem MkB.grown {w w' : World} {g k : Nat} {bs : List UInt8} {row : Option Nat} (h : MkB w g bs k) (hk : w.grownBy w' row) (hg : some g ≠ row) : MkB w' g bs k := grown_blk hk h hg
theorem MkB.box {w : World} {g k : Nat} {bs : List UInt8} (h : MkB w g bs k) (hk : k < 12) : ∃ y, w.cell? ⟨g, bs.length + k, none⟩ = some y ∧ w.frozen? ⟨g, bs.length + k, none⟩ = false := by
  refine ⟨byteV 0, blk_cell h ?_, blk_free h⟩
  rw [List.getElem?_toArray, List.getElem?_map, List.append_assoc, List.getElem?_append_right (by omega), Nat.add_sub_cancel_left, List.getElem?_append_right (by simp), List.length_replicate, Nat.sub_self, List.getElem?_replicate, if_pos (by omega)]
  rfl
theorem MkB.set {w : World} {g k : Nat} {bs : List UInt8} (h : MkB w g bs k) (hk : k < 12) : MkB (w.setCell ⟨g, bs.length + k, none⟩ (.int .u8 77)) g bs (k + 1) := by
  unfold MkB at *
  rw [blk_set h]
  congr 2
  apply Array.toList_inj.1
  rw [Array.toList_setIfInBounds, show (Value.int .u8 77) = byteV 77 from rfl, ← List.map_set]
  congr 1
  rw [List.append_assoc, List.set_append_right _ _ (by omega), Nat.add_sub_cancel_left, List.set_append_right _ _ (by simp), List.length_replicate, Nat.sub_self, show 12 - k = (12 - (k + 1)) + 1 by omega, List.replicate_succ, List.set_cons_zero, List.append_assoc, List.replicate_succ', List.append_assoc]
  rfl
theorem MkB.head {w : World} {g k j : Nat} {bs : List UInt8} (h : MkB w g bs k) (hj : j < bs.length) : w.cell? ⟨g, j, none⟩ = some (byteV (bs.getD j 0)) := by
  refine blk_cell h ?_
  rw [List.getElem?_toArray, List.getElem?_map, List.append_assoc, List.getElem?_append_left hj]
  simp [List.getD, List.getElem?_eq_getElem hj]
theorem MkB.tail {w : World} {g j : Nat} {bs : List UInt8} (h : MkB w g bs 12) (hj : bs.length ≤ j) (hj2 : j < bs.length + 12) : w.cell? ⟨g, j, none⟩ = some (.int .u8 77) := by
  refine blk_cell h ?_
  rw [List.getElem?_toArray, List.getElem?_map, List.append_assoc, List.getElem?_append_right hj, List.getElem?_append_left (by simp; omega), List.getElem?_replicate, if_pos (by omega)]
  rfl
theorem MkB.rd {w : World} {g k : Nat} {bs : List UInt8} (h : MkB w g bs k) (hl : bs.length ≤ 140737488355328) (c : Nat) (hc : bs.length ≤ c) : RdBytes w (.slice (some ⟨g, 0, none⟩) bs.length c) bs :=
  ⟨hl, _, _, rfl, hc, fun _ => ⟨g, 0, rfl, blk_lt h, fun j hj => by rw [Nat.zero_add]; exact h.head hj⟩⟩
/-- A row of bytes of the call's own, whatever it holds. -/
def BRow (w : World) (base : Nat) (v : Value) (n : Nat) : Prop := ∃ xs, w.ownsRow base 5 1 v n xs
theorem BRow.at_ {w : World} {base n j : Nat} {v : Value} (h : BRow w base v n) (hj : j < n) : ∃ g c y, v = .slice (some ⟨g, 0, none⟩) n c ∧ w.cell? ⟨g, j, none⟩ = some y ∧ w.frozen? ⟨g, j, none⟩ = false := by
  obtain ⟨xs, h⟩ := h
  obtain ⟨g, c, rfl, _⟩ := rowSome h (by omega)
  obtain ⟨h1, h2⟩ := rowAt h (j := j) (by omega)
  have hx := h.1
  exact ⟨g, c, _, rfl, h1.trans (List.getElem?_eq_getElem (by omega)), h2⟩
theorem BRow.set {w : World} {base n g c j : Nat} (h : BRow w base (.slice (some ⟨g, 0, none⟩) n c) n) (hj : j < n) (u : Value) : BRow (w.setCell ⟨g, j, none⟩ u) base (.slice (some ⟨g, 0, none⟩) n c) n := by
  obtain ⟨xs, h⟩ := h
  exact ⟨_, rowSet h (by omega) u⟩
theorem byte_inf : (Try.prog.info? 5).map (·.size) = some 1 := by kernel_rfl
theorem mkb_heap (w : World) (n : Nat) : (w.alloc (.cells (madeCells #[.int .u8 0] n) 5)).heap[w.heap.size]? = some (.cells (List.replicate n (Value.int .u8 0)).toArray 5 (0, 0)) := by
  have e : madeCells #[.int .u8 0] n = (List.replicate n (Value.int .u8 0)).toArray := by
    apply Array.ext
    · simp [madeCells]
    · intro i h1 h2
      simp [madeCells, Nat.mod_one]
  rw [e]; exact blk_new w _
/-- copy of bytes into a made row: what the run gives. -/
theorem run_cpb (w : World) (bs : List UInt8) (A : Option Addr) (c : Nat) (hs : 0 < bs.length → ∃ ad, A = some ad ∧ ∀ j u, (bs.map byteV)[j]? = some u → w.cell? (ad.add j) = some u) (ty : TypeId) :
    ∃ W1, Sem.run Try.prog (Builtin.copy_ #[26, 26] ty #[.slice (some ⟨w.heap.size, 0, none⟩) (bs.length + 12) (bs.length + 12), .slice A bs.length c]) (w.alloc (.cells (madeCells #[.int .u8 0] (bs.length + 12)) 5)) = .ok (.int .i64 bs.length) W1 ∧ MkB W1 w.heap.size bs 0 ∧ Below w.heap.size w W1 ∧ W1.heap.size = w.heap.size + 1 := by
  have hg := mkb_heap w (bs.length + 12)
  have hfin : bs.map byteV ++ List.replicate 12 (Value.int .u8 0) = (bs ++ List.replicate 0 77 ++ List.replicate (12 - 0) 0).map byteV := by simp [byteV]
  rcases Nat.eq_zero_or_pos bs.length with h0 | h0
  · have h1 : bs = [] := List.eq_nil_of_length_eq_zero h0
    subst h1
    refine ⟨_, run_copy_none _ _ _ _ _ _ _ _ _ _ _ Try.underlying26 byte_inf (by simp), ?_, (Below.refl _ _).alloc (Nat.le_refl _) _, by simp⟩
    unfold MkB
    rw [← hfin]
    simpa using hg
  · obtain ⟨ad, rfl, hc⟩ := hs h0
    have hn : (bs.map byteV).length = Nat.min bs.length (bs.length + 12) := by rw [List.length_map]; exact (Nat.min_eq_left (by omega)).symm
    have hrun := run_copy_row (P := Try.prog) (w.alloc (.cells (madeCells #[.int .u8 0] (bs.length + 12)) 5)) 26 26 ty 5 w.heap.size 0 (bs.length + 12) (bs.length + 12) ad bs.length c _ 5 (bs.map byteV) Try.underlying26 byte_inf hg hn (fun j u hu => Lib.cell?_alloc_some _ (hc j u hu)) (by simp) (oneByte _)
    refine ⟨_, by rw [hrun, List.length_map]; rfl, ?_, below_setRow ((Below.refl _ _).alloc (Nat.le_refl _) _) (Nat.le_refl _) _, by simp [World.setRow]⟩
    unfold MkB
    rw [setRow_heap _ _ _ _ _ _ hg, ← hfin]
    simp
theorem OCode.above {w w' : World} {base rb : Nat} {v : Value} {c : CodeM} (h : OCode w base v c) (hg : w.grownBy w' (some rb)) (hb : rb < base) : OCode w' base v c := by
  obtain ⟨vf, vt, rfl, h1, h2, h3, h4⟩ := h
  exact ⟨vf, vt, rfl, ownL_above (fun _ _ h => h.above hg hb) h1 hg hb, ownL_above (fun _ _ h => CeStr.any h) h2 hg hb, h3, h4⟩
theorem OwnB.far {w w' : World} {base rb : Nat} {v : Value} {bs : List UInt8} (h : OwnB w base v bs) (hg : w.grownBy w' (some rb)) (hb : rb < base) : OwnB w' base v bs := by
  refine World.ownsRow.kept h hg ?_
  rcases h.2 with ⟨rfl, _⟩ | ⟨g, cap, cur, rfl, hg2, _⟩
  · exact .inl rfl
  · refine .inr ?_
    simp only [Value.ownBlock, ne_eq, Option.some.injEq]; omega
theorem cell_far {w w' : World} {b o rb : Nat} {x : Value} (h : w.cell? ⟨b, o, none⟩ = some x) (hl : b < w.heap.size) (hg : w.grownBy w' (some rb)) (hb : b ≠ rb) : w'.cell? ⟨b, o, none⟩ = some x :=
  (World.cell?_of_block (hg.block b hl (by simp; exact hb))).trans h
theorem pack_len_le {c : CodeM} (hs : (soundM c).1 = 0) (ho : okNums c) : (packB c).length ≤ 500000004 := by
  have h := (pack_bound hs ho).2.2.2 c.funcs.length
  rw [packF_all] at h
  rw [pack_len]; omega
set_option maxRecDepth 20000 in
set_option maxHeartbeats 16000000 in
theorem walk (v0 : Value) (a0 : CodeM) (v1 : Value) (a1 : List UInt8) (a2 : Int) (w : World) (w0 : RdCode w v0 a0) (w1 : RdArgB w v1 a1) (w2 : (Lit.int .i64 a2).wf = true) :
    Calls Try.prog 3 #[v0, v1, .int .i64 a2] w fun e w' => e = .returned (.bool true) ∧ Kp w w' := by
  have hn := bounds_i64 w2
  clear w2
  have HC := hid w0
  obtain ⟨lf, lt, rfl, hf, hfl, ht, htl⟩ := w0
  obtain ⟨Af, cf, rfl, _⟩ := hf.form
  obtain ⟨At, ct, rfl, _⟩ := ht.form
  have HON := hid (okNums_of hf)
  clear hf hfl ht htl
  obtain ⟨r1, l1⟩ := w1
  have R1 := hid r1
  have SR1 := hid (show ∀ (A : Option Addr) (c : Nat), v1 = .slice A a1.length c → 0 < a1.length → ∃ ad, A = some ad ∧ ∀ j u, (a1.map byteV)[j]? = some u → w.cell? (ad.add j) = some u from fun A c e => by rw [e] at r1; exact r1.src.2)
  obtain ⟨_, A1, c1, rfl, hc1, hcell1⟩ := r1
  obtain ⟨W0, hW0⟩ : ∃ W0, w.alloc (.cells #[.slice Af a0.funcs.length cf, .slice At a0.texts.length ct] 25) = W0 := ⟨_, rfl⟩
  have HKA := hid (show Kp w W0 from by rw [← hW0]; exact (Kp.refl _).alloc _)
  have HB0 := hid (show W0.heap[w.heap.size]? = some (.cells #[.slice Af a0.funcs.length cf, .slice At a0.texts.length ct] 25 (0, 0)) from by rw [← hW0]; exact blk_new w _)
  have HS0 := hid (show W0.heap.size = w.heap.size + 1 from by rw [← hW0]; simp)
  have hcp := run_cpb W0 a1 A1 c1 (fun hp => by
    obtain ⟨ad, e, hc⟩ := SR1.out A1 c1 rfl hp
    exact ⟨ad, e, fun j u hu => by rw [← hW0]; exact Lib.cell?_alloc_some _ (hc j u hu)⟩) 3
  obtain ⟨W1, hrun, hmk1, hb1, hz1⟩ := hcp
  obtain ⟨i0, hT, hi, hz, hz1', hz2, _, _⟩ := elByte
  have hmk : ∀ u : World, (Instr.makeSlice 26 (.int .i64 ((a1.length : Int) + 12)) (.int .i64 ((a1.length : Int) + 12))).run Try.prog u =
      .ok (.slice (some ⟨u.heap.size, 0, none⟩) (a1.length + 12) (a1.length + 12)) (u.alloc (.cells (madeCells #[.int .u8 0] (a1.length + 12)) 5)) := fun u => by
    have h := run_make (P := Try.prog) u 26 5 i0 (.int .u8 0) hT hi hz .i64 .i64 ((a1.length : Int) + 12) ((a1.length : Int) + 12) (by omega) (Int.le_refl _) (by rw [hz2]; omega) (by omega)
    have e : ((a1.length : Int) + 12).toNat = a1.length + 12 := by omega
    rw [e] at h
    simpa [hz1', Value.cells] using h
  have HM1 := hid hmk1; have HB1 := hid hb1; have HZ1 := hid hz1
  clear hcell1 hc1 hmk1 hb1 hz1 hT hi hz hz1' hz2
  go_enter Try.func3, Try.ntmps3
  go_upto_region 1 with fail
  clear hW0
  obtain ⟨n0, hn0⟩ : ∃ n, w.heap.size = n := ⟨_, rfl⟩
  obtain ⟨n1, hn1⟩ : ∃ n, W0.heap.size = n := ⟨_, rfl⟩
  rw [hn0] at HB0 HS0 ⊢
  rw [hn1] at HS0 HM1 HB1 HZ1 hrun
  have hmk0 := hmk W0
  rw [hn1] at hmk0
  have kw : IntKind.i64.wrap ((a1.length : Int) + 12) = (a1.length : Int) + 12 := IntWalk.i64_in _ (by omega)
  clear hmk
  go_upto_region 4 with fail
  clear hrun hmk0
  have HN1 := hid (show n1 < W1.heap.size by have := HZ1.out; omega)
  go_loopw [8] (fun i wr => ∃ k : Nat, k ≤ 12 ∧ i = .int .i64 ((a1.length + k : Nat) : Int) ∧ MkB wr n1 a1 k ∧ Below n1 W0 wr) (fun i _ => a1.length + 12 - (intOf i).toNat)
  case atStart => exact ⟨0, Nat.zero_le _, rfl, HM1.out, HB1.out⟩
  case round =>
    obtain ⟨k, hk, rfl, hmk, hbw⟩ := hrel
    have HMK := hid hmk
    have HBW := hid hbw
    clear hbw
    by_cases hlt : k < 12
    · have i1 : ((a1.length + k : Nat) : Int) < (a1.length : Int) + 12 := by omega
      have i2 : ((a1.length + k : Nat) : Int) < ((a1.length + 12 : Nat) : Int) := by omega
      obtain ⟨y, hy, hf⟩ := hmk.box hlt
      have k1 : IntKind.i64.wrap (((a1.length + k : Nat) : Int) + 1) = ((a1.length + (k + 1) : Nat) : Int) := by rw [IntKind.wrap_i64]; omega
      generalize hq : a1.length + k = q at hy hf i1 i2 k1
      clear hmk
      go_wp2
      have HS := hid (HMK.out.set hlt)
      rw [hq] at HS
      refine ⟨⟨k + 1, hlt, ?_, HS.out, HBW.out.setCell (Nat.le_refl _) _⟩, ?_⟩
      · congr 1
      · rw [← hq]; simp only [intOf]; omega
    · obtain rfl : k = 12 := by omega
      have i1 : ¬ ((a1.length + 12 : Nat) : Int) < (a1.length : Int) + 12 := by omega
      have i2 : ¬ ((a1.length + 12 : Nat) : Int) < ((a1.length + 12 : Nat) : Int) := by omega
      clear hmk hk
      go_upto_region 7 with fail
      obtain ⟨W2, hW2⟩ : ∃ x, x = wr := ⟨_, rfl⟩
      subst hW2
      have HRB := hid (HMK.out.rd (by omega) (a1.length + 12) (by omega))
      have i3 : (0 : Int) ≤ (a1.length : Int) := by omega
      have i4 : (a1.length : Int) ≤ ((a1.length + 12 : Nat) : Int) := by omega
      have i5 : a1.length ≤ a1.length + 12 := by omega
      have hel := enc7_len 9 (zig a2) (by have := zig_lt a2 hn; omega)
      have hep := enc7_pos (zig a2)
      obtain ⟨E, hE⟩ : ∃ E, enc7 (zig a2) = E := ⟨_, rfl⟩
      rw [hE] at hel hep
      have HEL := hid (And.intro hep hel)
      go_upto_region 8 with (go_at_call 8; go_must (refine (imgNum_any _ a1 a2 _ HRB.out hn (by omega)).mono ?_); rintro e w3 ⟨⟨v3, rfl, hown3⟩, hk3⟩; rw [hE] at hown3; obtain ⟨g3, cap3, rfl, hcap3, hg3, hg3'⟩ := hown3.some_ (by rw [List.length_append]; omega); have HO3 := hid hown3; have HK3 := hid hk3; clear hown3 hk3; obtain ⟨N, hN⟩ : ∃ N, (a1 ++ E).length = N := ⟨_, rfl⟩; rw [hN] at hcap3; rw [hN])
      have hN2 : a1.length < N ∧ N ≤ a1.length + 10 := by have := HEL.out; rw [← hN, List.length_append]; omega
      have HNN := hid hN2
      have HBR := hid (show BRow w3 W2.heap.size (.slice (some ⟨g3, 0, none⟩) N cap3) N from by
        have h := HO3.out
        unfold OwnB at h
        rw [hN] at h
        exact ⟨_, h⟩)
      have HMK3 := hid (HMK.out.kp HK3.out)
      have HG3 := hid (show n1 < g3 ∧ g3 < w3.heap.size from ⟨Nat.lt_of_lt_of_le (blk_lt HMK.out) hg3, hg3'⟩)
      have HBW3 := hid (Below.trans HBW.out (Below.mono HK3.out (Nat.le_of_lt (blk_lt HMK.out))))
      have j1 : ¬ (N : Int) ≤ (a1.length : Int) := by omega
      clear hE hel hep hg3 hg3' hN i1 i2 i3 i4 i5 HO3 HRB HEL
      go_wp2_with fail
      go_loopw [10] (fun i wr => ∃ k : Nat, k ≤ N ∧ i = .int .i64 (k : Int) ∧ BRow wr W2.heap.size (.slice (some ⟨g3, 0, none⟩) N cap3) N ∧ w3.grownBy wr (some g3)) (fun i _ => N - (intOf i).toNat)
      case atStart => exact ⟨0, Nat.zero_le _, rfl, HBR.out, World.grownBy.refl _ _⟩
      case round =>
        obtain ⟨k, hk, rfl, hbr, hgr⟩ := hrel
        have HB := hid hbr
        have HG := hid hgr
        clear hgr
        by_cases hlt : k < N
        · have i1 : (k : Int) < (N : Int) := by omega
          have k1 : IntKind.i64.wrap ((k : Int) + 1) = (k : Int) + 1 := by rw [IntKind.wrap_i64]; omega
          obtain ⟨g, c', y, e, hy, hf⟩ := hbr.at_ hlt
          cases e
          clear hbr hN2
          go_wp2
          exact ⟨⟨k + 1, hlt, by congr 1, HB.out.set hlt _, HG.out.trans (grown_setCell _)⟩, by simp only [intOf, Int.toNat_natCast]; omega⟩
        · have i1 : ¬ (k : Int) < (N : Int) := by omega
          clear hbr
          obtain ⟨W4, hW4⟩ : ∃ x, x = wr := ⟨_, rfl⟩
          subst hW4
          have HMK4 := hid (HMK3.out.grown HG.out (by intro e; injection e with e; have := HG3.out; omega))
          have HBW4 := hid (show Below n1 W0 W4 from HBW3.out.grown HG.out (Nat.le_trans (Nat.le_of_lt (blk_lt HMK.out)) HK3.out.le) (fun k hk => by injection hk with hk; have := HG3.out; omega))
          have HR4 := hid (R1.out.kp (show Kp w W4 from Below.trans HKA.out (Below.mono HBW4.out (by have := HS0.out; rw [hn0]; omega))))
          clear hk hlt HB HG HBR HMK3 HBW3 HG3 hN2 HNN
          go_wp2_with fail
          go_loopw [11] (fun i wr => ∃ k : Nat, k ≤ a1.length + 12 ∧ i = .int .i64 (k : Int) ∧ Kp W4 wr) (fun i _ => a1.length + 12 - (intOf i).toNat)
          case atStart => exact ⟨0, Nat.zero_le _, rfl, Kp.refl _⟩
          case round =>
            obtain ⟨k, hk, rfl, hkr⟩ := hrel
            have HKR := hid hkr
            by_cases hlt : k < a1.length + 12
            · have k1 : IntKind.i64.wrap ((k : Int) + 1) = (k : Int) + 1 := by rw [IntKind.wrap_i64]; omega
              have i1 : (k : Int) < (a1.length : Int) + 12 := by omega
              have i2 : (k : Int) < ((a1.length + 12 : Nat) : Int) := by omega
              have hlm := Nat.lt_of_lt_of_le (blk_lt HMK4.out) hkr.le
              by_cases hin : k < a1.length
              · have i3 : (k : Int) < (a1.length : Int) := by omega
                have i4 : ¬ (a1.length : Int) ≤ (k : Int) := by omega
                obtain ⟨_, A', cc, e, _, hcell⟩ := HR4.out.kp hkr
                injection e with e _ e2
                subst e; subst e2
                obtain ⟨bb, bo, rfl, hbb, hcc⟩ := hcell (by omega)
                have q0 := hcc k hin
                have q1 := cell_kp hkr (blk_lt HMK4.out) (HMK4.out.head hin)
                unfold byteV at q0 q1
                generalize (a1.getD k 0).toNat = yv at q0 q1
                clear hcc hkr
                go_upto_region 17 with fail
                refine wp_region_kp [[], [], [1], [0, 2], [3], [4], [4], [4, 5, 6], [4, 7], [4], [4], [4, 9, 10], [4, 11], [4, 8, 12], [4, 13], [14], [15], [15], [15, 17], [15, 16, 18], [15, 19], [20], [20], [20, 21, 22], [20, 23], [20, 24], [15, 20, 25], [15, 26]] (fun u => Kp wr u)
                  [fun (y : Value) (u : World) => y = (.int .i64 (k : Int) : Value),
                   fun (y : Value) (u : World) => y = (.slice (some ⟨bb, bo, none⟩) a1.length c1 : Value),
                   fun (y : Value) (u : World) => y = (.int .i64 (a1.length : Int) : Value),
                   fun (y : Value) (u : World) => y = (.bool true : Value),
                   fun (y : Value) (u : World) => y = (.bool true : Value),
                   fun (y : Value) (u : World) => y = (.slice (some ⟨n1, 0, none⟩) (a1.length + 12) (a1.length + 12) : Value),
                   fun (y : Value) (u : World) => y = (.int .i64 (k : Int) : Value),
                   fun (y : Value) (u : World) => y = (.pointer (some ⟨n1, k, none⟩) : Value),
                   fun (y : Value) (u : World) => y = (.int .u8 (yv : Int) : Value),
                   fun (y : Value) (u : World) => y = (.slice (some ⟨bb, bo, none⟩) a1.length c1 : Value),
                   fun (y : Value) (u : World) => y = (.int .i64 (k : Int) : Value),
                   fun (y : Value) (u : World) => y = (.pointer (some ⟨bb, bo + k, none⟩) : Value),
                   fun (y : Value) (u : World) => y = (.int .u8 (yv : Int) : Value),
                   fun (y : Value) (u : World) => y = (.bool false : Value),
                   fun (y : Value) (u : World) => y = (.bool false : Value),
                   fun (y : Value) (u : World) => y = (.bool false : Value),
                   fun (y : Value) (u : World) => y = (.int .i64 (k : Int) : Value),
                   fun (y : Value) (u : World) => y = (.slice (some ⟨bb, bo, none⟩) a1.length c1 : Value),
                   fun (y : Value) (u : World) => y = (.int .i64 (a1.length : Int) : Value),
                   fun (y : Value) (u : World) => y = (.bool false : Value),
                   fun (y : Value) (u : World) => y = (.bool false : Value),
                   fun (y : Value) (u : World) => y = (undef : Value),
                   fun (y : Value) (u : World) => y = (undef : Value),
                   fun (y : Value) (u : World) => y = (undef : Value),
                   fun (y : Value) (u : World) => y = (undef : Value),
                   fun (y : Value) (u : World) => y = (undef : Value),
                   fun (y : Value) (u : World) => y = (.bool false : Value),
                   fun (y : Value) (u : World) => y = (.bool false : Value)]
                  (by kernel_rfl) (by kernel_rfl) (by kernel_rfl) (by kernel_rfl) ((Kp.refl _).drew) (fun _ _ hk h => h.trans hk) ⟨fun _ _ _ _ h => h, fun _ _ _ _ h => h, fun _ _ _ _ h => h, fun _ _ _ _ h => h, fun _ _ _ _ h => h, fun _ _ _ _ h => h, fun _ _ _ _ h => h, fun _ _ _ _ h => h, fun _ _ _ _ h => h, fun _ _ _ _ h => h, fun _ _ _ _ h => h, fun _ _ _ _ h => h, fun _ _ _ _ h => h, fun _ _ _ _ h => h, fun _ _ _ _ h => h, fun _ _ _ _ h => h, fun _ _ _ _ h => h, fun _ _ _ _ h => h, fun _ _ _ _ h => h, fun _ _ _ _ h => h, fun _ _ _ _ h => h, fun _ _ _ _ h => h, fun _ _ _ _ h => h, fun _ _ _ _ h => h, fun _ _ _ _ h => h, fun _ _ _ _ h => h, fun _ _ _ _ h => h, fun _ _ _ _ h => h, trivial⟩ ⟨?sb0, ?sb1, ?sb2, ?sb3, ?sb4, ?sb5, ?sb6, ?sb7, ?sb8, ?sb9, ?sb10, ?sb11, ?sb12, ?sb13, ?sb14, ?sb15, ?sb16, ?sb17, ?sb18, ?sb19, ?sb20, ?sb21, ?sb22, ?sb23, ?sb24, ?sb25, ?sb26, ?sb27, trivial⟩ ?hEb
                case sb0 =>
                  intro x u hg hd K hK
                  clear hd
                  refine ⟨?_⟩
                  simp only [putsFrom, Act.put, List.setIfInBounds_toArray, List.set_cons_zero, List.set_cons_succ, Nat.reduceAdd] at hK ⊢
                  go_simp
                  exact hK.out _ _ (Kp.refl _) rfl
                case sb1 =>
                  intro x u hg hd K hK
                  clear hd
                  refine ⟨?_⟩
                  simp only [putsFrom, Act.put, List.setIfInBounds_toArray, List.set_cons_zero, List.set_cons_succ, Nat.reduceAdd] at hK ⊢
                  go_simp
                  exact hK.out _ _ (Kp.refl _) rfl
                case sb2 =>
                  intro x u hg hd K hK
                  have d1 : (x 1) = .slice (some ⟨bb, bo, none⟩) a1.length c1 := And.left hd
                  clear hd
                  refine ⟨?_⟩
                  simp only [putsFrom, Act.put, List.setIfInBounds_toArray, List.set_cons_zero, List.set_cons_succ, Nat.reduceAdd, d1] at hK ⊢
                  go_simp
                  exact hK.out _ _ (Kp.refl _) rfl
                case sb3 =>
                  intro x u hg hd K hK
                  have d0 : (x 0) = .int .i64 (k : Int) := And.left hd
                  have d2 : (x 2) = .int .i64 (a1.length : Int) := And.left (And.right hd)
                  clear hd
                  refine ⟨?_⟩
                  simp only [putsFrom, Act.put, List.setIfInBounds_toArray, List.set_cons_zero, List.set_cons_succ, Nat.reduceAdd, d0, d2] at hK ⊢
                  go_simp
                  exact hK.out _ _ (Kp.refl _) rfl
                case sb4 =>
                  intro x u hg hd K hK
                  have d3 : (x 3) = .bool true := And.left hd
                  clear hd
                  refine ⟨?_⟩
                  simp only [putsFrom, Act.put, List.setIfInBounds_toArray, List.set_cons_zero, List.set_cons_succ, Nat.reduceAdd, d3] at hK ⊢
                  go_simp
                  exact hK.out _ _ (Kp.refl _) rfl
                case sb5 =>
                  intro x u hg hd K hK
                  have d4 : (x 4) = .bool true := And.left hd
                  clear hd
                  refine ⟨?_⟩
                  simp only [putsFrom, Act.put, List.setIfInBounds_toArray, List.set_cons_zero, List.set_cons_succ, Nat.reduceAdd, d4] at hK ⊢
                  go_simp
                  exact hK.out _ _ (Kp.refl _) rfl
                case sb6 =>
                  intro x u hg hd K hK
                  have d4 : (x 4) = .bool true := And.left hd
                  clear hd
                  refine ⟨?_⟩
                  simp only [putsFrom, Act.put, List.setIfInBounds_toArray, List.set_cons_zero, List.set_cons_succ, Nat.reduceAdd, d4] at hK ⊢
                  go_simp
                  exact hK.out _ _ (Kp.refl _) rfl
                case sb7 =>
                  intro x u hg hd K hK
                  have d4 : (x 4) = .bool true := And.left hd
                  have d5 : (x 5) = .slice (some ⟨n1, 0, none⟩) (a1.length + 12) (a1.length + 12) := And.left (And.right hd)
                  have d6 : (x 6) = .int .i64 (k : Int) := And.left (And.right (And.right hd))
                  clear hd
                  refine ⟨?_⟩
                  simp only [putsFrom, Act.put, List.setIfInBounds_toArray, List.set_cons_zero, List.set_cons_succ, Nat.reduceAdd, d4, d5, d6] at hK ⊢
                  go_simp
                  exact hK.out _ _ (Kp.refl _) rfl
                case sb8 =>
                  intro x u hg hd K hK
                  have d4 : (x 4) = .bool true := And.left hd
                  have d7 : (x 7) = .pointer (some ⟨n1, k, none⟩) := And.left (And.right hd)
                  clear hd
                  have q0 := cell_kp hg hlm q1
                  refine ⟨?_⟩
                  simp only [putsFrom, Act.put, List.setIfInBounds_toArray, List.set_cons_zero, List.set_cons_succ, Nat.reduceAdd, d4, d7] at hK ⊢
                  go_simp
                  exact hK.out _ _ (Kp.refl _) rfl
                case sb9 =>
                  intro x u hg hd K hK
                  have d4 : (x 4) = .bool true := And.left hd
                  clear hd
                  refine ⟨?_⟩
                  simp only [putsFrom, Act.put, List.setIfInBounds_toArray, List.set_cons_zero, List.set_cons_succ, Nat.reduceAdd, d4] at hK ⊢
                  go_simp
                  exact hK.out _ _ (Kp.refl _) rfl
                case sb10 =>
                  intro x u hg hd K hK
                  have d4 : (x 4) = .bool true := And.left hd
                  clear hd
                  refine ⟨?_⟩
                  simp only [putsFrom, Act.put, List.setIfInBounds_toArray, List.set_cons_zero, List.set_cons_succ, Nat.reduceAdd, d4] at hK ⊢
                  go_simp
                  exact hK.out _ _ (Kp.refl _) rfl
                case sb11 =>
                  intro x u hg hd K hK
                  have d4 : (x 4) = .bool true := And.left hd
                  have d9 : (x 9) = .slice (some ⟨bb, bo, none⟩) a1.length c1 := And.left (And.right hd)
                  have d10 : (x 10) = .int .i64 (k : Int) := And.left (And.right (And.right hd))
                  clear hd
                  refine ⟨?_⟩
                  simp only [putsFrom, Act.put, List.setIfInBounds_toArray, List.set_cons_zero, List.set_cons_succ, Nat.reduceAdd, d4, d9, d10] at hK ⊢
                  go_simp
                  exact hK.out _ _ (Kp.refl _) rfl
                case sb12 =>
                  intro x u hg hd K hK
                  have d4 : (x 4) = .bool true := And.left hd
                  have d11 : (x 11) = .pointer (some ⟨bb, bo + k, none⟩) := And.left (And.right hd)
                  clear hd
                  have q0 := cell_kp hg hbb q0
                  refine ⟨?_⟩
                  simp only [putsFrom, Act.put, List.setIfInBounds_toArray, List.set_cons_zero, List.set_cons_succ, Nat.reduceAdd, d4, d11] at hK ⊢
                  go_simp
                  exact hK.out _ _ (Kp.refl _) rfl
                case sb13 =>
                  intro x u hg hd K hK
                  have d4 : (x 4) = .bool true := And.left hd
                  have d8 : (x 8) = .int .u8 (yv : Int) := And.left (And.right hd)
                  have d12 : (x 12) = .int .u8 (yv : Int) := And.left (And.right (And.right hd))
                  clear hd
                  refine ⟨?_⟩
                  simp only [putsFrom, Act.put, List.setIfInBounds_toArray, List.set_cons_zero, List.set_cons_succ, Nat.reduceAdd, d4, d8, d12] at hK ⊢
                  go_simp
                  exact hK.out _ _ (Kp.refl _) rfl
                case sb14 =>
                  intro x u hg hd K hK
                  have d4 : (x 4) = .bool true := And.left hd
                  have d13 : (x 13) = .bool false := And.left (And.right hd)
                  clear hd
                  refine ⟨?_⟩
                  simp only [putsFrom, Act.put, List.setIfInBounds_toArray, List.set_cons_zero, List.set_cons_succ, Nat.reduceAdd, d4, d13] at hK ⊢
                  go_simp
                  exact hK.out _ _ (Kp.refl _) rfl
                case sb15 =>
                  intro x u hg hd K hK
                  have d14 : (x 14) = .bool false := And.left hd
                  clear hd
                  refine ⟨?_⟩
                  simp only [putsFrom, Act.put, List.setIfInBounds_toArray, List.set_cons_zero, List.set_cons_succ, Nat.reduceAdd, d14] at hK ⊢
                  go_simp
                  exact hK.out _ _ (Kp.refl _) rfl
                case sb16 =>
                  intro x u hg hd K hK
                  have d15 : (x 15) = .bool false := And.left hd
                  clear hd
                  refine ⟨?_⟩
                  simp only [putsFrom, Act.put, List.setIfInBounds_toArray, List.set_cons_zero, List.set_cons_succ, Nat.reduceAdd, d15] at hK ⊢
                  go_simp
                  exact hK.out _ _ (Kp.refl _) rfl
                case sb17 =>
                  intro x u hg hd K hK
                  have d15 : (x 15) = .bool false := And.left hd
                  clear hd
                  refine ⟨?_⟩
                  simp only [putsFrom, Act.put, List.setIfInBounds_toArray, List.set_cons_zero, List.set_cons_succ, Nat.reduceAdd, d15] at hK ⊢
                  go_simp
                  exact hK.out _ _ (Kp.refl _) rfl
                case sb18 =>
                  intro x u hg hd K hK
                  have d15 : (x 15) = .bool false := And.left hd
                  have d17 : (x 17) = .slice (some ⟨bb, bo, none⟩) a1.length c1 := And.left (And.right hd)
                  clear hd
                  refine ⟨?_⟩
                  simp only [putsFrom, Act.put, List.setIfInBounds_toArray, List.set_cons_zero, List.set_cons_succ, Nat.reduceAdd, d15, d17] at hK ⊢
                  go_simp
                  exact hK.out _ _ (Kp.refl _) rfl
                case sb19 =>
                  intro x u hg hd K hK
                  have d15 : (x 15) = .bool false := And.left hd
                  have d16 : (x 16) = .int .i64 (k : Int) := And.left (And.right hd)
                  have d18 : (x 18) = .int .i64 (a1.length : Int) := And.left (And.right (And.right hd))
                  clear hd
                  refine ⟨?_⟩
                  simp only [putsFrom, Act.put, List.setIfInBounds_toArray, List.set_cons_zero, List.set_cons_succ, Nat.reduceAdd, d15, d16, d18] at hK ⊢
                  go_simp
                  exact hK.out _ _ (Kp.refl _) rfl
                case sb20 =>
                  intro x u hg hd K hK
                  have d15 : (x 15) = .bool false := And.left hd
                  have d19 : (x 19) = .bool false := And.left (And.right hd)
                  clear hd
                  refine ⟨?_⟩
                  simp only [putsFrom, Act.put, List.setIfInBounds_toArray, List.set_cons_zero, List.set_cons_succ, Nat.reduceAdd, d15, d19] at hK ⊢
                  go_simp
                  exact hK.out _ _ (Kp.refl _) rfl
                case sb21 =>
                  intro x u hg hd K hK
                  have d20 : (x 20) = .bool false := And.left hd
                  clear hd
                  refine ⟨?_⟩
                  simp only [putsFrom, Act.put, List.setIfInBounds_toArray, List.set_cons_zero, List.set_cons_succ, Nat.reduceAdd, d20] at hK ⊢
                  go_simp
                  exact hK.out _ _ (Kp.refl _) rfl
                case sb22 =>
                  intro x u hg hd K hK
                  have d20 : (x 20) = .bool false := And.left hd
                  clear hd
                  refine ⟨?_⟩
                  simp only [putsFrom, Act.put, List.setIfInBounds_toArray, List.set_cons_zero, List.set_cons_succ, Nat.reduceAdd, d20] at hK ⊢
                  go_simp
                  exact hK.out _ _ (Kp.refl _) rfl
                case sb23 =>
                  intro x u hg hd K hK
                  have d20 : (x 20) = .bool false := And.left hd
                  have d21 : (x 21) = undef := And.left (And.right hd)
                  have d22 : (x 22) = undef := And.left (And.right (And.right hd))
                  clear hd
                  refine ⟨?_⟩
                  simp only [putsFrom, Act.put, List.setIfInBounds_toArray, List.set_cons_zero, List.set_cons_succ, Nat.reduceAdd, d20, d21, d22] at hK ⊢
                  go_simp
                  exact hK.out _ _ (Kp.refl _) rfl
                case sb24 =>
                  intro x u hg hd K hK
                  have d20 : (x 20) = .bool false := And.left hd
                  have d23 : (x 23) = undef := And.left (And.right hd)
                  clear hd
                  refine ⟨?_⟩
                  simp only [putsFrom, Act.put, List.setIfInBounds_toArray, List.set_cons_zero, List.set_cons_succ, Nat.reduceAdd, d20, d23] at hK ⊢
                  go_simp
                  exact hK.out _ _ (Kp.refl _) rfl
                case sb25 =>
                  intro x u hg hd K hK
                  have d20 : (x 20) = .bool false := And.left hd
                  have d24 : (x 24) = undef := And.left (And.right hd)
                  clear hd
                  refine ⟨?_⟩
                  simp only [putsFrom, Act.put, List.setIfInBounds_toArray, List.set_cons_zero, List.set_cons_succ, Nat.reduceAdd, d20, d24] at hK ⊢
                  go_simp
                  exact hK.out _ _ (Kp.refl _) rfl
                case sb26 =>
                  intro x u hg hd K hK
                  have d15 : (x 15) = .bool false := And.left hd
                  have d20 : (x 20) = .bool false := And.left (And.right hd)
                  have d25 : (x 25) = undef := And.left (And.right (And.right hd))
                  clear hd
                  refine ⟨?_⟩
                  simp only [putsFrom, Act.put, List.setIfInBounds_toArray, List.set_cons_zero, List.set_cons_succ, Nat.reduceAdd, d15, d20, d25] at hK ⊢
                  go_simp
                  exact hK.out _ _ (Kp.refl _) rfl
                case sb27 =>
                  intro x u hg hd K hK
                  have d15 : (x 15) = .bool false := And.left hd
                  have d26 : (x 26) = .bool false := And.left (And.right hd)
                  clear hd
                  refine ⟨?_⟩
                  simp only [putsFrom, Act.put, List.setIfInBounds_toArray, List.set_cons_zero, List.set_cons_succ, Nat.reduceAdd, d15, d26] at hK ⊢
                  go_simp
                  exact hK.out _ _ (Kp.refl _) rfl
                intro x u hg he
                have d0 : (x 0) = .int .i64 (k : Int) := And.left he
                have d1 : (x 1) = .slice (some ⟨bb, bo, none⟩) a1.length c1 := And.left (And.right he)
                have d2 : (x 2) = .int .i64 (a1.length : Int) := And.left (And.right (And.right he))
                have d3 : (x 3) = .bool true := And.left (And.right (And.right (And.right he)))
                have d4 : (x 4) = .bool true := And.left (And.right (And.right (And.right (And.right he))))
                have d5 : (x 5) = .slice (some ⟨n1, 0, none⟩) (a1.length + 12) (a1.length + 12) := And.left (And.right (And.right (And.right (And.right (And.right he)))))
                have d6 : (x 6) = .int .i64 (k : Int) := And.left (And.right (And.right (And.right (And.right (And.right (And.right he))))))
                have d7 : (x 7) = .pointer (some ⟨n1, k, none⟩) := And.left (And.right (And.right (And.right (And.right (And.right (And.right (And.right he)))))))
                have d8 : (x 8) = .int .u8 (yv : Int) := And.left (And.right (And.right (And.right (And.right (And.right (And.right (And.right (And.right he))))))))
                have d9 : (x 9) = .slice (some ⟨bb, bo, none⟩) a1.length c1 := And.left (And.right (And.right (And.right (And.right (And.right (And.right (And.right (And.right (And.right he)))))))))
                have d10 : (x 10) = .int .i64 (k : Int) := And.left (And.right (And.right (And.right (And.right (And.right (And.right (And.right (And.right (And.right (And.right he))))))))))
                have d11 : (x 11) = .pointer (some ⟨bb, bo + k, none⟩) := And.left (And.right (And.right (And.right (And.right (And.right (And.right (And.right (And.right (And.right (And.right (And.right he)))))))))))
                have d12 : (x 12) = .int .u8 (yv : Int) := And.left (And.right (And.right (And.right (And.right (And.right (And.right (And.right (And.right (And.right (And.right (And.right (And.right he))))))))))))
                have d13 : (x 13) = .bool false := And.left (And.right (And.right (And.right (And.right (And.right (And.right (And.right (And.right (And.right (And.right (And.right (And.right (And.right he)))))))))))))
                have d14 : (x 14) = .bool false := And.left (And.right (And.right (And.right (And.right (And.right (And.right (And.right (And.right (And.right (And.right (And.right (And.right (And.right (And.right he))))))))))))))
                have d15 : (x 15) = .bool false := And.left (And.right (And.right (And.right (And.right (And.right (And.right (And.right (And.right (And.right (And.right (And.right (And.right (And.right (And.right (And.right he)))))))))))))))
                have d16 : (x 16) = .int .i64 (k : Int) := And.left (And.right (And.right (And.right (And.right (And.right (And.right (And.right (And.right (And.right (And.right (And.right (And.right (And.right (And.right (And.right (And.right he))))))))))))))))
                have d17 : (x 17) = .slice (some ⟨bb, bo, none⟩) a1.length c1 := And.left (And.right (And.right (And.right (And.right (And.right (And.right (And.right (And.right (And.right (And.right (And.right (And.right (And.right (And.right (And.right (And.right (And.right he)))))))))))))))))
                have d18 : (x 18) = .int .i64 (a1.length : Int) := And.left (And.right (And.right (And.right (And.right (And.right (And.right (And.right (And.right (And.right (And.right (And.right (And.right (And.right (And.right (And.right (And.right (And.right (And.right he))))))))))))))))))
                have d19 : (x 19) = .bool false := And.left (And.right (And.right (And.right (And.right (And.right (And.right (And.right (And.right (And.right (And.right (And.right (And.right (And.right (And.right (And.right (And.right (And.right (And.right (And.right he)))))))))))))))))))
                have d20 : (x 20) = .bool false := And.left (And.right (And.right (And.right (And.right (And.right (And.right (And.right (And.right (And.right (And.right (And.right (And.right (And.right (And.right (And.right (And.right (And.right (And.right (And.right (And.right he))))))))))))))))))))
                have d21 : (x 21) = undef := And.left (And.right (And.right (And.right (And.right (And.right (And.right (And.right (And.right (And.right (And.right (And.right (And.right (And.right (And.right (And.right (And.right (And.right (And.right (And.right (And.right (And.right he)))))))))))))))))))))
                have d22 : (x 22) = undef := And.left (And.right (And.right (And.right (And.right (And.right (And.right (And.right (And.right (And.right (And.right (And.right (And.right (And.right (And.right (And.right (And.right (And.right (And.right (And.right (And.right (And.right (And.right he))))))))))))))))))))))
                have d23 : (x 23) = undef := And.left (And.right (And.right (And.right (And.right (And.right (And.right (And.right (And.right (And.right (And.right (And.right (And.right (And.right (And.right (And.right (And.right (And.right (And.right (And.right (And.right (And.right (And.right (And.right he)))))))))))))))))))))))
                have d24 : (x 24) = undef := And.left (And.right (And.right (And.right (And.right (And.right (And.right (And.right (And.right (And.right (And.right (And.right (And.right (And.right (And.right (And.right (And.right (And.right (And.right (And.right (And.right (And.right (And.right (And.right (And.right he))))))))))))))))))))))))
                have d25 : (x 25) = undef := And.left (And.right (And.right (And.right (And.right (And.right (And.right (And.right (And.right (And.right (And.right (And.right (And.right (And.right (And.right (And.right (And.right (And.right (And.right (And.right (And.right (And.right (And.right (And.right (And.right (And.right he)))))))))))))))))))))))))
                have d26 : (x 26) = .bool false := And.left (And.right (And.right (And.right (And.right (And.right (And.right (And.right (And.right (And.right (And.right (And.right (And.right (And.right (And.right (And.right (And.right (And.right (And.right (And.right (And.right (And.right (And.right (And.right (And.right (And.right (And.right he))))))))))))))))))))))))))
                have d27 : (x 27) = .bool false := And.left (And.right (And.right (And.right (And.right (And.right (And.right (And.right (And.right (And.right (And.right (And.right (And.right (And.right (And.right (And.right (And.right (And.right (And.right (And.right (And.right (And.right (And.right (And.right (And.right (And.right (And.right (And.right he)))))))))))))))))))))))))))
                clear he
                refine ⟨?_⟩
                simp only [putsFrom, Act.put, List.setIfInBounds_toArray, List.set_cons_zero, List.set_cons_succ, Nat.reduceAdd, d0, d1, d2, d3, d4, d5, d6, d7, d8, d9, d10, d11, d12, d13, d14, d15, d16, d17, d18, d19, d20, d21, d22, d23, d24, d25, d26, d27]
                clear d0 d1 d2 d3 d4 d5 d6 d7 d8 d9 d10 d11 d12 d13 d14 d15 d16 d17 d18 d19 d20 d21 d22 d23 d24 d25 d26 d27
                have HGU := hid hg
                clear hg
                go_wp2
                exact ⟨⟨k + 1, by omega, by congr 1, HKR.out.trans HGU.out⟩, by simp only [intOf, Int.toNat_natCast]; omega⟩
              · have i3 : ¬ (k : Int) < (a1.length : Int) := by omega
                have i4 : (a1.length : Int) ≤ (k : Int) := by omega
                have q1 := cell_kp hkr (blk_lt HMK4.out) (HMK4.out.tail (j := k) (by omega) hlt)
                clear hkr
                go_upto_region 17 with fail
                refine wp_region_kp [[], [], [1], [0, 2], [3], [4], [4], [4, 5, 6], [4, 7], [4], [4], [4, 9, 10], [4, 11], [4, 8, 12], [4, 13], [14], [15], [15], [15, 17], [15, 16, 18], [15, 19], [20], [20], [20, 21, 22], [20, 23], [20, 24], [15, 20, 25], [15, 26]] (fun u => Kp wr u)
                  [fun (y : Value) (u : World) => y = (.int .i64 (k : Int) : Value),
                   fun (y : Value) (u : World) => y = (.slice A1 a1.length c1 : Value),
                   fun (y : Value) (u : World) => y = (.int .i64 (a1.length : Int) : Value),
                   fun (y : Value) (u : World) => y = (.bool false : Value),
                   fun (y : Value) (u : World) => y = (.bool false : Value),
                   fun (y : Value) (u : World) => y = (undef : Value),
                   fun (y : Value) (u : World) => y = (undef : Value),
                   fun (y : Value) (u : World) => y = (undef : Value),
                   fun (y : Value) (u : World) => y = (undef : Value),
                   fun (y : Value) (u : World) => y = (undef : Value),
                   fun (y : Value) (u : World) => y = (undef : Value),
                   fun (y : Value) (u : World) => y = (undef : Value),
                   fun (y : Value) (u : World) => y = (undef : Value),
                   fun (y : Value) (u : World) => y = (undef : Value),
                   fun (y : Value) (u : World) => y = (.bool false : Value),
                   fun (y : Value) (u : World) => y = (.bool false : Value),
                   fun (y : Value) (u : World) => y = (.int .i64 (k : Int) : Value),
                   fun (y : Value) (u : World) => y = (.slice A1 a1.length c1 : Value),
                   fun (y : Value) (u : World) => y = (.int .i64 (a1.length : Int) : Value),
                   fun (y : Value) (u : World) => y = (.bool true : Value),
                   fun (y : Value) (u : World) => y = (.bool true : Value),
                   fun (y : Value) (u : World) => y = (.slice (some ⟨n1, 0, none⟩) (a1.length + 12) (a1.length + 12) : Value),
                   fun (y : Value) (u : World) => y = (.int .i64 (k : Int) : Value),
                   fun (y : Value) (u : World) => y = (.pointer (some ⟨n1, k, none⟩) : Value),
                   fun (y : Value) (u : World) => y = (.int .u8 77 : Value),
                   fun (y : Value) (u : World) => y = (.bool false : Value),
                   fun (y : Value) (u : World) => y = (.bool false : Value),
                   fun (y : Value) (u : World) => y = (.bool false : Value)]
                  (by kernel_rfl) (by kernel_rfl) (by kernel_rfl) (by kernel_rfl) ((Kp.refl _).drew) (fun _ _ hk h => h.trans hk) ⟨fun _ _ _ _ h => h, fun _ _ _ _ h => h, fun _ _ _ _ h => h, fun _ _ _ _ h => h, fun _ _ _ _ h => h, fun _ _ _ _ h => h, fun _ _ _ _ h => h, fun _ _ _ _ h => h, fun _ _ _ _ h => h, fun _ _ _ _ h => h, fun _ _ _ _ h => h, fun _ _ _ _ h => h, fun _ _ _ _ h => h, fun _ _ _ _ h => h, fun _ _ _ _ h => h, fun _ _ _ _ h => h, fun _ _ _ _ h => h, fun _ _ _ _ h => h, fun _ _ _ _ h => h, fun _ _ _ _ h => h, fun _ _ _ _ h => h, fun _ _ _ _ h => h, fun _ _ _ _ h => h, fun _ _ _ _ h => h, fun _ _ _ _ h => h, fun _ _ _ _ h => h, fun _ _ _ _ h => h, fun _ _ _ _ h => h, trivial⟩ ⟨?sc0, ?sc1, ?sc2, ?sc3, ?sc4, ?sc5, ?sc6, ?sc7, ?sc8, ?sc9, ?sc10, ?sc11, ?sc12, ?sc13, ?sc14, ?sc15, ?sc16, ?sc17, ?sc18, ?sc19, ?sc20, ?sc21, ?sc22, ?sc23, ?sc24, ?sc25, ?sc26, ?sc27, trivial⟩ ?hEc
                case sc0 =>
                  intro x u hg hd K hK
                  clear hd
                  refine ⟨?_⟩
                  simp only [putsFrom, Act.put, List.setIfInBounds_toArray, List.set_cons_zero, List.set_cons_succ, Nat.reduceAdd] at hK ⊢
                  go_simp
                  exact hK.out _ _ (Kp.refl _) rfl
                case sc1 =>
                  intro x u hg hd K hK
                  clear hd
                  refine ⟨?_⟩
                  simp only [putsFrom, Act.put, List.setIfInBounds_toArray, List.set_cons_zero, List.set_cons_succ, Nat.reduceAdd] at hK ⊢
                  go_simp
                  exact hK.out _ _ (Kp.refl _) rfl
                case sc2 =>
                  intro x u hg hd K hK
                  have d1 : (x 1) = .slice A1 a1.length c1 := And.left hd
                  clear hd
                  refine ⟨?_⟩
                  simp only [putsFrom, Act.put, List.setIfInBounds_toArray, List.set_cons_zero, List.set_cons_succ, Nat.reduceAdd, d1] at hK ⊢
                  go_simp
                  exact hK.out _ _ (Kp.refl _) rfl
                case sc3 =>
                  intro x u hg hd K hK
                  have d0 : (x 0) = .int .i64 (k : Int) := And.left hd
                  have d2 : (x 2) = .int .i64 (a1.length : Int) := And.left (And.right hd)
                  clear hd
                  refine ⟨?_⟩
                  simp only [putsFrom, Act.put, List.setIfInBounds_toArray, List.set_cons_zero, List.set_cons_succ, Nat.reduceAdd, d0, d2] at hK ⊢
                  go_simp
                  exact hK.out _ _ (Kp.refl _) rfl
                case sc4 =>
                  intro x u hg hd K hK
                  have d3 : (x 3) = .bool false := And.left hd
                  clear hd
                  refine ⟨?_⟩
                  simp only [putsFrom, Act.put, List.setIfInBounds_toArray, List.set_cons_zero, List.set_cons_succ, Nat.reduceAdd, d3] at hK ⊢
                  go_simp
                  exact hK.out _ _ (Kp.refl _) rfl
                case sc5 =>
                  intro x u hg hd K hK
                  have d4 : (x 4) = .bool false := And.left hd
                  clear hd
                  refine ⟨?_⟩
                  simp only [putsFrom, Act.put, List.setIfInBounds_toArray, List.set_cons_zero, List.set_cons_succ, Nat.reduceAdd, d4] at hK ⊢
                  go_simp
                  exact hK.out _ _ (Kp.refl _) rfl
                case sc6 =>
                  intro x u hg hd K hK
                  have d4 : (x 4) = .bool false := And.left hd
                  clear hd
                  refine ⟨?_⟩
                  simp only [putsFrom, Act.put, List.setIfInBounds_toArray, List.set_cons_zero, List.set_cons_succ, Nat.reduceAdd, d4] at hK ⊢
                  go_simp
                  exact hK.out _ _ (Kp.refl _) rfl
                case sc7 =>
                  intro x u hg hd K hK
                  have d4 : (x 4) = .bool false := And.left hd
                  have d5 : (x 5) = undef := And.left (And.right hd)
                  have d6 : (x 6) = undef := And.left (And.right (And.right hd))
                  clear hd
                  refine ⟨?_⟩
                  simp only [putsFrom, Act.put, List.setIfInBounds_toArray, List.set_cons_zero, List.set_cons_succ, Nat.reduceAdd, d4, d5, d6] at hK ⊢
                  go_simp
                  exact hK.out _ _ (Kp.refl _) rfl
                case sc8 =>
                  intro x u hg hd K hK
                  have d4 : (x 4) = .bool false := And.left hd
                  have d7 : (x 7) = undef := And.left (And.right hd)
                  clear hd
                  refine ⟨?_⟩
                  simp only [putsFrom, Act.put, List.setIfInBounds_toArray, List.set_cons_zero, List.set_cons_succ, Nat.reduceAdd, d4, d7] at hK ⊢
                  go_simp
                  exact hK.out _ _ (Kp.refl _) rfl
                case sc9 =>
                  intro x u hg hd K hK
                  have d4 : (x 4) = .bool false := And.left hd
                  clear hd
                  refine ⟨?_⟩
                  simp only [putsFrom, Act.put, List.setIfInBounds_toArray, List.set_cons_zero, List.set_cons_succ, Nat.reduceAdd, d4] at hK ⊢
                  go_simp
                  exact hK.out _ _ (Kp.refl _) rfl
                case sc10 =>
                  intro x u hg hd K hK
                  have d4 : (x 4) = .bool false := And.left hd
                  clear hd
                  refine ⟨?_⟩
                  simp only [putsFrom, Act.put, List.setIfInBounds_toArray, List.set_cons_zero, List.set_cons_succ, Nat.reduceAdd, d4] at hK ⊢
                  go_simp
                  exact hK.out _ _ (Kp.refl _) rfl
                case sc11 =>
                  intro x u hg hd K hK
                  have d4 : (x 4) = .bool false := And.left hd
                  have d9 : (x 9) = undef := And.left (And.right hd)
                  have d10 : (x 10) = undef := And.left (And.right (And.right hd))
                  clear hd
                  refine ⟨?_⟩
                  simp only [putsFrom, Act.put, List.setIfInBounds_toArray, List.set_cons_zero, List.set_cons_succ, Nat.reduceAdd, d4, d9, d10] at hK ⊢
                  go_simp
                  exact hK.out _ _ (Kp.refl _) rfl
                case sc12 =>
                  intro x u hg hd K hK
                  have d4 : (x 4) = .bool false := And.left hd
                  have d11 : (x 11) = undef := And.left (And.right hd)
                  clear hd
                  refine ⟨?_⟩
                  simp only [putsFrom, Act.put, List.setIfInBounds_toArray, List.set_cons_zero, List.set_cons_succ, Nat.reduceAdd, d4, d11] at hK ⊢
                  go_simp
                  exact hK.out _ _ (Kp.refl _) rfl
                case sc13 =>
                  intro x u hg hd K hK
                  have d4 : (x 4) = .bool false := And.left hd
                  have d8 : (x 8) = undef := And.left (And.right hd)
                  have d12 : (x 12) = undef := And.left (And.right (And.right hd))
                  clear hd
                  refine ⟨?_⟩
                  simp only [putsFrom, Act.put, List.setIfInBounds_toArray, List.set_cons_zero, List.set_cons_succ, Nat.reduceAdd, d4, d8, d12] at hK ⊢
                  go_simp
                  exact hK.out _ _ (Kp.refl _) rfl
                case sc14 =>
                  intro x u hg hd K hK
                  have d4 : (x 4) = .bool false := And.left hd
                  have d13 : (x 13) = undef := And.left (And.right hd)
                  clear hd
                  refine ⟨?_⟩
                  simp only [putsFrom, Act.put, List.setIfInBounds_toArray, List.set_cons_zero, List.set_cons_succ, Nat.reduceAdd, d4, d13] at hK ⊢
                  go_simp
                  exact hK.out _ _ (Kp.refl _) rfl
                case sc15 =>
                  intro x u hg hd K hK
                  have d14 : (x 14) = .bool false := And.left hd
                  clear hd
                  refine ⟨?_⟩
                  simp only [putsFrom, Act.put, List.setIfInBounds_toArray, List.set_cons_zero, List.set_cons_succ, Nat.reduceAdd, d14] at hK ⊢
                  go_simp
                  exact hK.out _ _ (Kp.refl _) rfl
                case sc16 =>
                  intro x u hg hd K hK
                  have d15 : (x 15) = .bool false := And.left hd
                  clear hd
                  refine ⟨?_⟩
                  simp only [putsFrom, Act.put, List.setIfInBounds_toArray, List.set_cons_zero, List.set_cons_succ, Nat.reduceAdd, d15] at hK ⊢
                  go_simp
                  exact hK.out _ _ (Kp.refl _) rfl
                case sc17 =>
                  intro x u hg hd K hK
                  have d15 : (x 15) = .bool false := And.left hd
                  clear hd
                  refine ⟨?_⟩
                  simp only [putsFrom, Act.put, List.setIfInBounds_toArray, List.set_cons_zero, List.set_cons_succ, Nat.reduceAdd, d15] at hK ⊢
                  go_simp
                  exact hK.out _ _ (Kp.refl _) rfl
                case sc18 =>
                  intro x u hg hd K hK
                  have d15 : (x 15) = .bool false := And.left hd
                  have d17 : (x 17) = .slice A1 a1.length c1 := And.left (And.right hd)
                  clear hd
                  refine ⟨?_⟩
                  simp only [putsFrom, Act.put, List.setIfInBounds_toArray, List.set_cons_zero, List.set_cons_succ, Nat.reduceAdd, d15, d17] at hK ⊢
                  go_simp
                  exact hK.out _ _ (Kp.refl _) rfl
                case sc19 =>
                  intro x u hg hd K hK
                  have d15 : (x 15) = .bool false := And.left hd
                  have d16 : (x 16) = .int .i64 (k : Int) := And.left (And.right hd)
                  have d18 : (x 18) = .int .i64 (a1.length : Int) := And.left (And.right (And.right hd))
                  clear hd
                  refine ⟨?_⟩
                  simp only [putsFrom, Act.put, List.setIfInBounds_toArray, List.set_cons_zero, List.set_cons_succ, Nat.reduceAdd, d15, d16, d18] at hK ⊢
                  go_simp
                  exact hK.out _ _ (Kp.refl _) rfl
                case sc20 =>
                  intro x u hg hd K hK
                  have d15 : (x 15) = .bool false := And.left hd
                  have d19 : (x 19) = .bool true := And.left (And.right hd)
                  clear hd
                  refine ⟨?_⟩
                  simp only [putsFrom, Act.put, List.setIfInBounds_toArray, List.set_cons_zero, List.set_cons_succ, Nat.reduceAdd, d15, d19] at hK ⊢
                  go_simp
                  exact hK.out _ _ (Kp.refl _) rfl
                case sc21 =>
                  intro x u hg hd K hK
                  have d20 : (x 20) = .bool true := And.left hd
                  clear hd
                  refine ⟨?_⟩
                  simp only [putsFrom, Act.put, List.setIfInBounds_toArray, List.set_cons_zero, List.set_cons_succ, Nat.reduceAdd, d20] at hK ⊢
                  go_simp
                  exact hK.out _ _ (Kp.refl _) rfl
                case sc22 =>
                  intro x u hg hd K hK
                  have d20 : (x 20) = .bool true := And.left hd
                  clear hd
                  refine ⟨?_⟩
                  simp only [putsFrom, Act.put, List.setIfInBounds_toArray, List.set_cons_zero, List.set_cons_succ, Nat.reduceAdd, d20] at hK ⊢
                  go_simp
                  exact hK.out _ _ (Kp.refl _) rfl
                case sc23 =>
                  intro x u hg hd K hK
                  have d20 : (x 20) = .bool true := And.left hd
                  have d21 : (x 21) = .slice (some ⟨n1, 0, none⟩) (a1.length + 12) (a1.length + 12) := And.left (And.right hd)
                  have d22 : (x 22) = .int .i64 (k : Int) := And.left (And.right (And.right hd))
                  clear hd
                  refine ⟨?_⟩
                  simp only [putsFrom, Act.put, List.setIfInBounds_toArray, List.set_cons_zero, List.set_cons_succ, Nat.reduceAdd, d20, d21, d22] at hK ⊢
                  go_simp
                  exact hK.out _ _ (Kp.refl _) rfl
                case sc24 =>
                  intro x u hg hd K hK
                  have d20 : (x 20) = .bool true := And.left hd
                  have d23 : (x 23) = .pointer (some ⟨n1, k, none⟩) := And.left (And.right hd)
                  clear hd
                  have q0 := cell_kp hg hlm q1
                  refine ⟨?_⟩
                  simp only [putsFrom, Act.put, List.setIfInBounds_toArray, List.set_cons_zero, List.set_cons_succ, Nat.reduceAdd, d20, d23] at hK ⊢
                  go_simp
                  exact hK.out _ _ (Kp.refl _) rfl
                case sc25 =>
                  intro x u hg hd K hK
                  have d20 : (x 20) = .bool true := And.left hd
                  have d24 : (x 24) = .int .u8 77 := And.left (And.right hd)
                  clear hd
                  refine ⟨?_⟩
                  simp only [putsFrom, Act.put, List.setIfInBounds_toArray, List.set_cons_zero, List.set_cons_succ, Nat.reduceAdd, d20, d24] at hK ⊢
                  go_simp
                  exact hK.out _ _ (Kp.refl _) rfl
                case sc26 =>
                  intro x u hg hd K hK
                  have d15 : (x 15) = .bool false := And.left hd
                  have d20 : (x 20) = .bool true := And.left (And.right hd)
                  have d25 : (x 25) = .bool false := And.left (And.right (And.right hd))
                  clear hd
                  refine ⟨?_⟩
                  simp only [putsFrom, Act.put, List.setIfInBounds_toArray, List.set_cons_zero, List.set_cons_succ, Nat.reduceAdd, d15, d20, d25] at hK ⊢
                  go_simp
                  exact hK.out _ _ (Kp.refl _) rfl
                case sc27 =>
                  intro x u hg hd K hK
                  have d15 : (x 15) = .bool false := And.left hd
                  have d26 : (x 26) = .bool false := And.left (And.right hd)
                  clear hd
                  refine ⟨?_⟩
                  simp only [putsFrom, Act.put, List.setIfInBounds_toArray, List.set_cons_zero, List.set_cons_succ, Nat.reduceAdd, d15, d26] at hK ⊢
                  go_simp
                  exact hK.out _ _ (Kp.refl _) rfl
                intro x u hg he
                have d0 : (x 0) = .int .i64 (k : Int) := And.left he
                have d1 : (x 1) = .slice A1 a1.length c1 := And.left (And.right he)
                have d2 : (x 2) = .int .i64 (a1.length : Int) := And.left (And.right (And.right he))
                have d3 : (x 3) = .bool false := And.left (And.right (And.right (And.right he)))
                have d4 : (x 4) = .bool false := And.left (And.right (And.right (And.right (And.right he))))
                have d5 : (x 5) = undef := And.left (And.right (And.right (And.right (And.right (And.right he)))))
                have d6 : (x 6) = undef := And.left (And.right (And.right (And.right (And.right (And.right (And.right he))))))
                have d7 : (x 7) = undef := And.left (And.right (And.right (And.right (And.right (And.right (And.right (And.right he)))))))
                have d8 : (x 8) = undef := And.left (And.right (And.right (And.right (And.right (And.right (And.right (And.right (And.right he))))))))
                have d9 : (x 9) = undef := And.left (And.right (And.right (And.right (And.right (And.right (And.right (And.right (And.right (And.right he)))))))))
                have d10 : (x 10) = undef := And.left (And.right (And.right (And.right (And.right (And.right (And.right (And.right (And.right (And.right (And.right he))))))))))
                have d11 : (x 11) = undef := And.left (And.right (And.right (And.right (And.right (And.right (And.right (And.right (And.right (And.right (And.right (And.right he)))))))))))
                have d12 : (x 12) = undef := And.left (And.right (And.right (And.right (And.right (And.right (And.right (And.right (And.right (And.right (And.right (And.right (And.right he))))))))))))
                have d13 : (x 13) = undef := And.left (And.right (And.right (And.right (And.right (And.right (And.right (And.right (And.right (And.right (And.right (And.right (And.right (And.right he)))))))))))))
                have d14 : (x 14) = .bool false := And.left (And.right (And.right (And.right (And.right (And.right (And.right (And.right (And.right (And.right (And.right (And.right (And.right (And.right (And.right he))))))))))))))
                have d15 : (x 15) = .bool false := And.left (And.right (And.right (And.right (And.right (And.right (And.right (And.right (And.right (And.right (And.right (And.right (And.right (And.right (And.right (And.right he)))))))))))))))
                have d16 : (x 16) = .int .i64 (k : Int) := And.left (And.right (And.right (And.right (And.right (And.right (And.right (And.right (And.right (And.right (And.right (And.right (And.right (And.right (And.right (And.right (And.right he))))))))))))))))
                have d17 : (x 17) = .slice A1 a1.length c1 := And.left (And.right (And.right (And.right (And.right (And.right (And.right (And.right (And.right (And.right (And.right (And.right (And.right (And.right (And.right (And.right (And.right (And.right he)))))))))))))))))
                have d18 : (x 18) = .int .i64 (a1.length : Int) := And.left (And.right (And.right (And.right (And.right (And.right (And.right (And.right (And.right (And.right (And.right (And.right (And.right (And.right (And.right (And.right (And.right (And.right (And.right he))))))))))))))))))
                have d19 : (x 19) = .bool true := And.left (And.right (And.right (And.right (And.right (And.right (And.right (And.right (And.right (And.right (And.right (And.right (And.right (And.right (And.right (And.right (And.right (And.right (And.right (And.right he)))))))))))))))))))
                have d20 : (x 20) = .bool true := And.left (And.right (And.right (And.right (And.right (And.right (And.right (And.right (And.right (And.right (And.right (And.right (And.right (And.right (And.right (And.right (And.right (And.right (And.right (And.right (And.right he))))))))))))))))))))
                have d21 : (x 21) = .slice (some ⟨n1, 0, none⟩) (a1.length + 12) (a1.length + 12) := And.left (And.right (And.right (And.right (And.right (And.right (And.right (And.right (And.right (And.right (And.right (And.right (And.right (And.right (And.right (And.right (And.right (And.right (And.right (And.right (And.right (And.right he)))))))))))))))))))))
                have d22 : (x 22) = .int .i64 (k : Int) := And.left (And.right (And.right (And.right (And.right (And.right (And.right (And.right (And.right (And.right (And.right (And.right (And.right (And.right (And.right (And.right (And.right (And.right (And.right (And.right (And.right (And.right (And.right he))))))))))))))))))))))
                have d23 : (x 23) = .pointer (some ⟨n1, k, none⟩) := And.left (And.right (And.right (And.right (And.right (And.right (And.right (And.right (And.right (And.right (And.right (And.right (And.right (And.right (And.right (And.right (And.right (And.right (And.right (And.right (And.right (And.right (And.right (And.right he)))))))))))))))))))))))
                have d24 : (x 24) = .int .u8 77 := And.left (And.right (And.right (And.right (And.right (And.right (And.right (And.right (And.right (And.right (And.right (And.right (And.right (And.right (And.right (And.right (And.right (And.right (And.right (And.right (And.right (And.right (And.right (And.right (And.right he))))))))))))))))))))))))
                have d25 : (x 25) = .bool false := And.left (And.right (And.right (And.right (And.right (And.right (And.right (And.right (And.right (And.right (And.right (And.right (And.right (And.right (And.right (And.right (And.right (And.right (And.right (And.right (And.right (And.right (And.right (And.right (And.right (And.right he)))))))))))))))))))))))))
                have d26 : (x 26) = .bool false := And.left (And.right (And.right (And.right (And.right (And.right (And.right (And.right (And.right (And.right (And.right (And.right (And.right (And.right (And.right (And.right (And.right (And.right (And.right (And.right (And.right (And.right (And.right (And.right (And.right (And.right (And.right he))))))))))))))))))))))))))
                have d27 : (x 27) = .bool false := And.left (And.right (And.right (And.right (And.right (And.right (And.right (And.right (And.right (And.right (And.right (And.right (And.right (And.right (And.right (And.right (And.right (And.right (And.right (And.right (And.right (And.right (And.right (And.right (And.right (And.right (And.right (And.right he)))))))))))))))))))))))))))
                clear he
                refine ⟨?_⟩
                simp only [putsFrom, Act.put, List.setIfInBounds_toArray, List.set_cons_zero, List.set_cons_succ, Nat.reduceAdd, d0, d1, d2, d3, d4, d5, d6, d7, d8, d9, d10, d11, d12, d13, d14, d15, d16, d17, d18, d19, d20, d21, d22, d23, d24, d25, d26, d27]
                clear d0 d1 d2 d3 d4 d5 d6 d7 d8 d9 d10 d11 d12 d13 d14 d15 d16 d17 d18 d19 d20 d21 d22 d23 d24 d25 d26 d27
                have HGU := hid hg
                clear hg
                go_wp2
                exact ⟨⟨k + 1, by omega, by congr 1, HKR.out.trans HGU.out⟩, by simp only [intOf, Int.toNat_natCast]; omega⟩
            · have i1 : ¬ (k : Int) < (a1.length : Int) + 12 := by omega
              have i2 : ¬ (k : Int) < ((a1.length + 12 : Nat) : Int) := by omega
              have HB5 := hid ((hkr.block _ (by rw [Nat.lt_iff_add_one_le]; exact Nat.le_trans (Nat.le_of_eq HS0.out.symm) (by exact Nat.le_of_lt (blk_lt HMK4.out)))).trans ((HBW4.out.block n0 (by have := HS0.out; omega)).trans HB0.out))
              have HKW := hid (show Kp w wr from Below.trans HKA.out (Below.mono (Below.trans HBW4.out (Below.mono hkr (Nat.le_of_lt (blk_lt HMK4.out)))) (by have := HS0.out; rw [hn0]; omega)))
              obtain ⟨W5, hW5⟩ : ∃ x, x = wr := ⟨_, rfl⟩
              subst hW5
              clear hkr hk hlt R1 HMK4 HBW4 HR4 HKR HBW HMK
              have d0 := blk_cell (o := 0) (v := Value.slice Af a0.funcs.length cf) HB5.out rfl
              have d1 := blk_cell (o := 1) (v := Value.slice At a0.texts.length ct) HB5.out rfl
              have dl := blk_lt HB5.out
              go_upto_region 20 with (go_at_call 9; go_must (refine (roomyCode_any _ _ a0 (HC.out.kp HKW.out)).mono ?_); rintro e w6 ⟨⟨v6, rfl, hrm6⟩, hk6⟩; obtain ⟨Df, df, gt, kt, rfl⟩ := hrm6.form; have HR6 := hid hrm6; have HK6 := hid hk6; clear hrm6 hk6)
              have HD7 := hid (HR6.out.kp ((Kp.refl _).alloc (.cells #[.slice Df a0.funcs.length df, .slice (some ⟨gt, 0, none⟩) a0.texts.length kt] 25)))
              have HBD := hid (blk_new w6 (.cells #[.slice Df a0.funcs.length df, .slice (some ⟨gt, 0, none⟩) a0.texts.length kt] 25))
              have HBC := hid (blk_old ((HK6.out.block _ (blk_lt HB5.out)).trans HB5.out) (.cells #[.slice Df a0.funcs.length df, .slice (some ⟨gt, 0, none⟩) a0.texts.length kt] 25))
              have HK7 := hid (HKW.out.trans (HK6.out.alloc (.cells #[.slice Df a0.funcs.length df, .slice (some ⟨gt, 0, none⟩) a0.texts.length kt] 25)))
              generalize w6.alloc (.cells #[.slice Df a0.funcs.length df, .slice (some ⟨gt, 0, none⟩) a0.texts.length kt] 25) = W7 at HD7 HBD HBC HK7 ⊢
              generalize w6.heap.size = nd at HBD ⊢
              clear HR6 HK6 d0 d1 dl
              have b0 := blk_cell (o := 0) (v := Value.slice Df a0.funcs.length df) HBD.out rfl
              have b1 := blk_cell (o := 1) (v := Value.slice (some ⟨gt, 0, none⟩) a0.texts.length kt) HBD.out rfl
              have bl := blk_lt HBD.out
              have d0 := blk_cell (o := 0) (v := Value.slice Af a0.funcs.length cf) HBC.out rfl
              have d1 := blk_cell (o := 1) (v := Value.slice At a0.texts.length ct) HBC.out rfl
              have dl := blk_lt HBC.out
              by_cases hs : (soundM a0).1 = 0
              · have HS := hid hs
                have HUP := hid (unpack_pack a0 (sound_code hs HON.out) hs)
                have HLE := hid (pack_len_le hs HON.out)
                have HPOS := hid (show 0 < (packB a0).length by rw [pack_len]; omega)
                generalize hP : packB a0 = P at HUP HLE HPOS
                have HP := hid hP
                obtain ⟨NP, hNP⟩ : ∃ n, P.length = n := ⟨_, rfl⟩
                clear hs hP
                go_upto_region 21 with (go_at_call 10; go_must (refine (pack_ok _ _ a0 HD7.out.rd HS.out).mono ?_); rintro e w8 ⟨⟨v8, rfl, ho8⟩, hk8⟩; rw [HP.out] at ho8; obtain ⟨gx, kx, rfl, hcx, hgx, hgx'⟩ := ho8.some_ HPOS.out; have HO8 := hid ho8; have HK8 := hid hk8; have HG8 := hid (And.intro hgx hgx'); have hb8 := (hk8.block _ (blk_lt HBD.out)).trans HBD.out; have hc8 := (hk8.block _ (blk_lt HBC.out)).trans HBC.out; have HBD8 := hid hb8; have HBC8 := hid hc8; have p0 := blk_cell (o := 0) (v := Value.slice Df a0.funcs.length df) hb8 rfl; have p1 := blk_cell (o := 1) (v := Value.slice (some ⟨gt, 0, none⟩) a0.texts.length kt) hb8 rfl; have pl := blk_lt hb8; have q0 := blk_cell (o := 0) (v := Value.slice Af a0.funcs.length cf) hc8 rfl; have q1 := blk_cell (o := 1) (v := Value.slice At a0.texts.length ct) hc8 rfl; have ql := blk_lt hc8; clear ho8 hk8 hgx hgx' hb8 hc8; rw [hNP] at hcx; rw [hNP])
                clear b0 b1 bl d0 d1 dl
                have H98 := hid (HD7.out.kp HK8.out)
                go_upto_region 22 with (go_at_call 10; go_must (refine (pack_ok _ _ a0 H98.out.rd HS.out).mono ?_); rintro e w9 ⟨⟨v9, rfl, ho9⟩, hk9⟩; rw [HP.out] at ho9; obtain ⟨gy, ky, rfl, hcy, hgy, hgy'⟩ := ho9.some_ HPOS.out; have HO9 := hid ho9; have HK9 := hid hk9; have HG9 := hid (And.intro hgy hgy'); have hb9 := (hk9.block _ (blk_lt HBD8.out)).trans HBD8.out; have hc9 := (hk9.block _ (blk_lt HBC8.out)).trans HBC8.out; have HBC9 := hid hc9; have b0 := blk_cell (o := 0) (v := Value.slice Df a0.funcs.length df) hb9 rfl; have b1 := blk_cell (o := 1) (v := Value.slice (some ⟨gt, 0, none⟩) a0.texts.length kt) hb9 rfl; have bl := blk_lt hb9; have d0 := blk_cell (o := 0) (v := Value.slice Af a0.funcs.length cf) hc9 rfl; have d1 := blk_cell (o := 1) (v := Value.slice At a0.texts.length ct) hc9 rfl; have dl := blk_lt hc9; clear ho9 hk9 hgy hgy' hb9 hc9; rw [hNP] at hcy; rw [hNP])
                clear p0 p1 pl q0 q1 ql
                have HKW9 := hid (HK7.out.trans (HK8.out.trans HK9.out))
                have HD9 := hid (H98.out.kp HK9.out)
                have HRX := hid (show RdBytes w8 (.slice (some ⟨gx, 0, none⟩) NP kx) P by rw [← hNP]; exact RdBytes.of_own (HO8.out) (by have := HLE.out; omega))
                go_upto_region 26 with (go_at_call 11; go_must (refine (stayedCode_any _ _ _ _ a0 HD9.out (HC.out.kp HKW9.out)).mono ?_); rintro e w10 ⟨rfl, hk10⟩; have HK10 := hid hk10; have d0 := cell_kp hk10 dl d0; have d1 := cell_kp hk10 dl d1; have dl := Nat.lt_of_lt_of_le dl hk10.le; clear hk10)
                have HKX := hid (HKW9.out.trans HK10.out)
                have HRXX := hid (HRX.out.kp (HK9.out.trans HK10.out))
                have HLE2 := hid (show P.length ≤ 1073741824 by have := HLE.out; omega)
                go_upto_region 27 with (go_at_call 12; go_must (refine (unpack_any _ _ P HRXX.out HLE2.out).mono ?_); unfold UnP; rw [HUP.out]; rintro e w11 ⟨⟨v11, rfl, ho11⟩, hk11⟩; obtain ⟨vf, vt, rfl, hof, hot, hlf, hlt⟩ := ho11; obtain ⟨A5, c5, rfl⟩ := (show ∃ A c, vf = .slice A a0.funcs.length c by obtain ⟨xs, h, _⟩ := hof; exact own_form h); obtain ⟨A6, c6, rfl⟩ := (show ∃ A c, vt = .slice A a0.texts.length c by obtain ⟨xs, h, _⟩ := hot; exact own_form h); have HO11 := hid (show OCode _ _ _ a0 from ⟨_, _, rfl, hof, hot, hlf, hlt⟩); have HK11 := hid hk11; have d0 := cell_kp hk11 dl d0; have d1 := cell_kp hk11 dl d1; have dl := Nat.lt_of_lt_of_le dl hk11.le; clear hof hot hlf hlt hk11)
                have HZ := hid (HO11.out.kp ((Kp.refl _).alloc (.cells #[.slice A5 a0.funcs.length c5, .slice A6 a0.texts.length c6] 25)))
                have HBZ := hid (blk_new w11 (.cells #[.slice A5 a0.funcs.length c5, .slice A6 a0.texts.length c6] 25))
                have HK12 := hid (HK11.out.alloc (.cells #[.slice A5 a0.funcs.length c5, .slice A6 a0.texts.length c6] 25))
                have d0 := cell_kp ((Kp.refl w11).alloc (.cells #[.slice A5 a0.funcs.length c5, .slice A6 a0.texts.length c6] 25)) dl d0
                have d1 := cell_kp ((Kp.refl w11).alloc (.cells #[.slice A5 a0.funcs.length c5, .slice A6 a0.texts.length c6] 25)) dl d1
                have dl := Nat.lt_of_lt_of_le dl ((Kp.refl w11).alloc (.cells #[.slice A5 a0.funcs.length c5, .slice A6 a0.texts.length c6] 25)).le
                have HNZ := hid (HK11.out.le)
                generalize w11.alloc (.cells #[.slice A5 a0.funcs.length c5, .slice A6 a0.texts.length c6] 25) = W12 at HZ HBZ HK12 d0 d1 dl ⊢
                generalize w11.heap.size = nz at HBZ HNZ ⊢
                have HBX := hid (show BRow W12 W7.heap.size (.slice (some ⟨gx, 0, none⟩) NP kx) NP from by
                  have h := (ownsRow_keep HO8.out (HK9.out.trans (HK10.out.trans HK12.out)))
                  rw [hNP] at h
                  exact ⟨_, h⟩)
                have HYR := hid (show OwnB W12 w8.heap.size (.slice (some ⟨gy, 0, none⟩) P.length ky) P from ownsRow_keep HO9.out (HK10.out.trans HK12.out))
                have HXN := hid (show gx < w8.heap.size ∧ gx < w10.heap.size ∧ gx < nz ∧ w.heap.size ≤ gx ∧ n0 < gx from by
                  have h1 := HG8.out; have h2 := HK9.out.le; have h3 := HK10.out.le; have h4 := HNZ.out; have h5 := HK7.out.le; have h6 := blk_lt HBC.out
                  omega)
                clear HO8 HO9 HRX HRXX HO11 HD9 H98 HD7 HBD HBC HBD8 HBC8 HBC9 b0 b1 bl HG8 HG9
                go_wp2_with fail
                go_loopw [19] (fun i wr => ∃ k : Nat, k ≤ NP ∧ i = .int .i64 (k : Int) ∧ BRow wr W7.heap.size (.slice (some ⟨gx, 0, none⟩) NP kx) NP ∧ W12.grownBy wr (some gx)) (fun i _ => NP - (intOf i).toNat)
                case atStart => exact ⟨0, Nat.zero_le _, rfl, HBX.out, World.grownBy.refl _ _⟩
                case round =>
                  obtain ⟨k, hk, rfl, hbr, hgr⟩ := hrel
                  have HB := hid hbr
                  have HG := hid hgr
                  clear hgr
                  have hle := HLE.out
                  by_cases hlt : k < NP
                  · have i1 : (k : Int) < (NP : Int) := by omega
                    have k1 : IntKind.i64.wrap ((k : Int) + 1) = (k : Int) + 1 := by rw [IntKind.wrap_i64]; omega
                    obtain ⟨g, c', y, e, hy, hf⟩ := hbr.at_ hlt
                    cases e
                    clear hbr d0 d1 dl hle
                    go_wp2
                    exact ⟨⟨k + 1, hlt, by congr 1, HB.out.set hlt _, HG.out.trans (grown_setCell _)⟩, by simp only [intOf, Int.toNat_natCast]; omega⟩
                  · have i1 : ¬ (k : Int) < (NP : Int) := by omega
                    clear hbr
                    have HXO := HXN.out
                    have HZr := hid (OCode.rd (OCode.above HZ.out HG.out (by omega)))
                    have HYO := hid (OwnB.far HYR.out HG.out (by omega))
                    have HYr := hid (show RdBytes wr (.slice (some ⟨gy, 0, none⟩) NP ky) P by rw [← hNP]; exact RdBytes.of_own HYO.out (by omega))
                    have hbz := grown_blk HG.out HBZ.out (by intro e; injection e with e; omega)
                    have b0 := blk_cell (o := 0) (v := Value.slice A5 a0.funcs.length c5) hbz rfl
                    have b1 := blk_cell (o := 1) (v := Value.slice A6 a0.texts.length c6) hbz rfl
                    have bl := blk_lt hbz
                    have d0 := cell_far d0 dl HG.out (by omega)
                    have d1 := cell_far d1 dl HG.out (by omega)
                    have dl := Nat.lt_of_lt_of_le dl HG.out.size
                    have HKR := hid (show Kp w wr from (HKX.out.trans HK12.out).grown HG.out (by have := HKX.out.le; have := HK12.out.le; omega) (fun k hk => by injection hk with hk; omega))
                    clear hbz hk hlt HXO hle
                    go_wp2_with first | (go_at_call 12; go_must (refine (unpack_any _ _ P HYr.out HLE2.out).mono ?_); unfold UnP; rw [HUP.out]; rintro e w13 ⟨⟨v13, rfl, ho13⟩, hk13⟩; obtain ⟨vf, vt, rfl, hof, hot, hlf, hlt⟩ := ho13; obtain ⟨A7, c7, rfl⟩ := (show ∃ A c, vf = .slice A a0.funcs.length c by obtain ⟨xs, h, _⟩ := hof; exact own_form h); obtain ⟨A8, c8, rfl⟩ := (show ∃ A c, vt = .slice A a0.texts.length c by obtain ⟨xs, h, _⟩ := hot; exact own_form h); have HO13 := hid ((show OCode _ _ _ a0 from ⟨_, _, rfl, hof, hot, hlf, hlt⟩).rd.kp ((Kp.refl _).alloc (.cells #[.slice A7 a0.funcs.length c7, .slice A8 a0.texts.length c8] 25))); have hkk := hk13.alloc (.cells #[.slice A7 a0.funcs.length c7, .slice A8 a0.texts.length c8] 25); have HK13 := hid hkk; have HB20 := hid (blk_new w13 (.cells #[.slice A7 a0.funcs.length c7, .slice A8 a0.texts.length c8] 25)); have ha13 := (Kp.refl w13).alloc (.cells #[.slice A7 a0.funcs.length c7, .slice A8 a0.texts.length c8] 25); have HA13 := hid ha13; clear ha13; have b0 := cell_kp hk13 bl b0; have b1 := cell_kp hk13 bl b1; have bl := Nat.lt_of_lt_of_le bl hk13.le; have d0 := cell_kp hk13 dl d0; have d1 := cell_kp hk13 dl d1; have dl := Nat.lt_of_lt_of_le dl hk13.le; clear hof hot hlf hlt hk13 hkk) | (go_at_call 13; have _t := HK14; go_must (refine (same_eq _ _ _ a0 (HO13.out.kp HK14.out) (HC.out.kp ((HKR.out.trans HK13.out).trans HK14.out))).mono ?_); rintro e w15 ⟨rfl, hk15⟩; have HK15 := hid hk15) | (go_at_call 13; go_must (refine (same_eq _ _ _ a0 (HZr.out.kp HK13.out) (HC.out.kp (HKR.out.trans HK13.out))).mono ?_); rintro e w14 ⟨rfl, hk14⟩; have HK14 := hid hk14; have hb20 := (hk14.block _ (blk_lt HB20.out)).trans HB20.out; have e0 := blk_cell (o := 0) (v := Value.slice A7 a0.funcs.length c7) hb20 rfl; have e1 := blk_cell (o := 1) (v := Value.slice A8 a0.texts.length c8) hb20 rfl; have el := blk_lt hb20; have d0 := cell_kp (HA13.out.trans hk14) dl d0; have d1 := cell_kp (HA13.out.trans hk14) dl d1; have dl := Nat.lt_of_lt_of_le dl (HA13.out.trans hk14).le; clear hk14 hb20)
                    go_ret
                    exact ⟨rfl, ((HKR.out.trans HK13.out).trans HK14.out).trans HK15.out⟩
              · have HER := hid hs
                have z9 : ((soundM a0).1 != 0) = true := by simpa using hs
                clear hs
                go_upto_region 21 with (go_at_call 10; go_must (refine (pack_err _ _ a0 HD7.out.rd HER.out).mono ?_); rintro e w8 ⟨rfl, hk8⟩; have HK8 := hid hk8; have b0 := cell_kp hk8 bl b0; have b1 := cell_kp hk8 bl b1; have bl := Nat.lt_of_lt_of_le bl hk8.le; have d0 := cell_kp hk8 dl d0; have d1 := cell_kp hk8 dl d1; have dl := Nat.lt_of_lt_of_le dl hk8.le; clear hk8)
                have H98 := hid (HD7.out.kp HK8.out)
                go_upto_region 22 with (go_at_call 10; go_must (refine (pack_err _ _ a0 H98.out.rd HER.out).mono ?_); rintro e w9 ⟨rfl, hk9⟩; have HK9 := hid hk9; have b0 := cell_kp hk9 bl b0; have b1 := cell_kp hk9 bl b1; have bl := Nat.lt_of_lt_of_le bl hk9.le; have d0 := cell_kp hk9 dl d0; have d1 := cell_kp hk9 dl d1; have dl := Nat.lt_of_lt_of_le dl hk9.le; clear hk9)
                have HKW9 := hid (HK7.out.trans (HK8.out.trans HK9.out))
                have HD9 := hid (H98.out.kp HK9.out)
                go_wp2_with (go_at_call 11; go_must (refine (stayedCode_any _ _ _ _ a0 HD9.out (HC.out.kp HKW9.out)).mono ?_); rintro e w10 ⟨rfl, hk10⟩; have HK10 := hid hk10; clear hk10)
                go_ret
                exact ⟨rfl, HKW9.out.trans HK10.out⟩
/-! ### The row's step (the guide's frame, written by program) -/
set_option maxRecDepth 100000 in
theorem lifted (os : Os) (started : os.Started) (H : Type) (enc : TypeId × Value → H) :
    ReturnsInHanded {} Try.checked os 3 .any (Rows.imageMemorySpec.pre6 enc Try.prog Try.f3 Rows.imageMemoryRow.domain false) (Rows.imageMemorySpec.post enc Try.prog Try.f3 false true false false) := by
  refine returnsInHanded_of_change_sized (C := Try.checked) own started (by kernel_rfl) Try.func3
    (ChangeSpec.witness6 (enc := enc) (C := Try.checked) false ⟨#[], #[.agg #[.slice none 0 0, .slice none 0 0], .slice none 0 0, .int .i64 0], []⟩ 8 (by kernel_rfl) (by kernel_rfl) (by kernel_rfl) (by kernel_rfl)) ?_
  intro W base args ds gs before hval0 hW _ hsz0 _
  have hsz : (DataW.weightsEach Try.prog (Try.f3.params.toList ++ Rows.imageMemorySpec.plain.varTypes Try.prog) (ds ++ gs)).all (· ≤ reachBytes) = true := hsz0
  clear hsz0
  have hval : ∀ (j : Nat) t v, Try.f3.params[j]? = some t → args[j]? = some v → Value.okWide Try.prog W .any base t v := hval0
  have hW' := hW
  obtain ⟨p, q, hA0, hV, rfl, hfz, hnd⟩ := hW
  have hA : DataW.TrodAll enc Try.prog W 0 (fun _ => true) true Try.f3.params.toList args.toList ds p := hA0
  rw [Try.params3] at hA hval hsz
  obtain ⟨v0, vs0, d0, ds0, p0, q0, hargs, rfl, rfl, h0, r0⟩ := trodAll_cons hA
  obtain ⟨v1, vs1, d1, ds1, p1, q1, rfl, rfl, rfl, h1, r1⟩ := trodAll_cons r0
  obtain ⟨v2, vs2, d2, ds2, p2, q2, rfl, rfl, rfl, h2, r2⟩ := trodAll_cons r1
  obtain ⟨rfl, rfl, rfl⟩ := trodAll_nil r2
  obtain rfl : args = #[v0, v1, v2] := by cases args; simp_all
  obtain ⟨rfl, rfl⟩ := trodVars_none hV
  have k0 := h0
  have lt0 : ∀ x ∈ p0, x.block < W.heap.size := by obtain ⟨m, hm⟩ := k0; exact DataW.trod_lt m _ _ _ hm
  have hz0 : ∀ n ∈ DataW.weights Try.prog 25 d0, n ≤ reachBytes := fun n hn => by
    have := List.all_eq_true.1 hsz _ (DataW.weights_mem_each (j := 0) rfl rfl n hn)
    simpa using this
  obtain ⟨a0, w0⟩ := open_code (hval 0 25 v0 rfl rfl) h0 hz0
  have k1 := h1
  have lt1 : ∀ x ∈ p1, x.block < W.heap.size := by obtain ⟨m, hm⟩ := k1; exact DataW.trod_lt m _ _ _ hm
  have hz1 : ∀ n ∈ DataW.weights Try.prog 26 d1, n ≤ reachBytes := fun n hn => by
    have := List.all_eq_true.1 hsz _ (DataW.weights_mem_each (j := 1) rfl rfl n hn)
    simpa using this
  obtain ⟨a1, w1⟩ := open_bytes (hval 1 26 v1 rfl rfl) h1 hz1
  have k2 := h2
  have lt2 : ∀ x ∈ p2, x.block < W.heap.size := by obtain ⟨m, hm⟩ := k2; exact DataW.trod_lt m _ _ _ hm
  obtain ⟨a2, rfl, rfl, rfl, w2⟩ := open_int Try.underlying3 (hval 2 3 v2 rfl rfl) h2
  clear hA0 hval0
  simp only [List.append_nil] at hW'
  refine (walk v0 a0 v1 a1 a2 W w0 w1 w2).mono fun e W' ⟨he, bel⟩ => ?_
  subst he
  exact ⟨_, rfl, _, _, _, [], _, [], hW', trodAll_mk1 (shut_bool Try.underlying4 _), (trodAll_cons_mk (Below.trod laidOut (by kernel_rfl) (of_decide_eq_true (by kernel_rfl)) k0 bel lt0) (trodAll_cons_mk (Below.trod laidOut (by kernel_rfl) (of_decide_eq_true (by kernel_rfl)) k1 bel lt1) (trodAll_cons_mk (Below.trod laidOut (by kernel_rfl) (of_decide_eq_true (by kernel_rfl)) k2 bel lt2) trodAll_mk0))), rfl, Below.frame bel _, fun h => by cases h⟩

theorem over : Rows.imageMemoryRow.holds Try.pinned (OpenSpec.ofChange Rows.imageMemorySpec) :=
  OpenClaim.holds_of_wide 3 Try.f3 rfl rfl rfl rfl rfl rfl rfl ⟨rfl, rfl, rfl, rfl, rfl⟩ rfl rfl rfl rfl rfl (by kernel_rfl) Try.func3 (by kernel_rfl)
    (of_decide_eq_true (by kernel_rfl)) (by unfold Func.isWrapper; rw [if_neg (of_decide_eq_false (by kernel_rfl))]; exact ⟨rfl, rfl⟩)
    (fun os started H enc _ => lifted os started H enc)

/-- THE STATEMENT. -/
theorem proved : Rows.ImageMemorySaid := over
#print axioms proved

end Go.Proofs.Ytgonekmmbeedeaa.imageMemory
