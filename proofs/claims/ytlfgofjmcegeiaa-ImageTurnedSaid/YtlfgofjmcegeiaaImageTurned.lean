/-
  The law ImageTurned answers true for every code, each place and each other byte there. No condition.
-/
import Derived.SizedLaws
import Derived.Deep.CondSized
import Derived.Test.YtlfgofjmcegeiaaRows
import Derived.Test.YtlfgofjmcegeiaaCodeS
import Derived.Test.YtlfgofjmcegeiaaImgPk
import Derived.Test.YtlfgofjmcegeiaaImgU
import Derived.Test.YtlfgofjmcegeiaaRd
import Derived.Test.YtlfgofjmcegeiaaSpot
import Derived.Test.YtlfgofjmcegeiaaRegF
import Derived.Test.YtlfgofjmcegeiaaRegionL
namespace Go.Proofs.Ytlfgofjmcegeiaa.imageTurned
open Go.ChangeShapes Go.WideShapes Go.ChangeAt Go.RowKit
open Go.ChangeMaps (open_string shut_string)
set_option linter.unusedVariables false
set_option linter.unusedSimpArgs false

theorem own : ownKnob Try.prog.godebug = none := by kernel_rfl
theorem laidOut : laidOutB Try.prog = true := by kernel_rfl


theorem xor_u8 (a b : Nat) (ha : a < 256) (hb : b < 256) : bits .xor .u8 (a : Int) (b : Int) = ((a ^^^ b : Nat) : Int) := by
  have hlt : a ^^^ b < 2 ^ 8 := Nat.xor_lt_two_pow (by omega) (by omega)
  have e1 : ∀ x : Nat, BitVec.ofInt 8 (x : Int) = BitVec.ofNat 8 x := by intro x; simp
  show IntKind.u8.wrap ((BitVec.ofInt 8 (a : Int) ^^^ BitVec.ofInt 8 (b : Int)).toNat : Int) = _
  rw [e1, e1, BitVec.toNat_xor, BitVec.toNat_ofNat, BitVec.toNat_ofNat, Nat.mod_eq_of_lt (by omega), Nat.mod_eq_of_lt (by omega)]
  have h8 : a ^^^ b < 256 := hlt
  generalize a ^^^ b = n at h8
  rw [IntKind.wrap_u8]; omega
theorem xor_ne (a b : Nat) (hb : b ≠ 0) : a ^^^ b ≠ a := by
  intro h
  apply hb
  have h2 : a ^^^ (a ^^^ b) = a ^^^ a := by rw [h]
  rw [← Nat.xor_assoc, Nat.xor_self, Nat.zero_xor] at h2
  exact h2
theorem turned_set {c : CodeM} {B : List UInt8} {i : Nat} {y : UInt8} (hB : packB c = B) (hi : i < B.length) (hy : B.getD i 0 ≠ y) : ∃ er : Int, 1 ≤ er ∧ unpackM (B.set i y) = (⟨[], []⟩, er) := by
  have e1 : B = B.take i ++ B.getD i 0 :: B.drop (i + 1) := by
    conv => lhs; rw [← List.take_append_drop i B]
    rw [List.drop_eq_getElem_cons hi]; simp [List.getD, List.getElem?_eq_getElem hi]
  have e2 : B.set i y = B.take i ++ y :: B.drop (i + 1) := by
    rw [List.set_eq_take_append_cons_drop, if_pos hi]
  rw [e2]
  rcases unpack_turned (a := B.take i) (b := B.drop (i + 1)) (hB.trans e1) hy with h | h
  · exact ⟨6, by omega, h⟩
  · exact ⟨18, by omega, h⟩
theorem OwnB.setB {w : World} {base g cap n i : Nat} {bs : List UInt8} (h : OwnB w base (.slice (some ⟨g, 0, none⟩) n cap) bs) (hn : n = bs.length) (hi : i < n) (y : UInt8) : OwnB (w.setCell ⟨g, i, none⟩ (.int .u8 y.toNat)) base (.slice (some ⟨g, 0, none⟩) n cap) (bs.set i y) := by
  subst hn
  unfold OwnB at h ⊢
  rw [List.length_set, List.map_set]
  exact rowSet h (by omega) (byteV y)
theorem spot_is {a n i : Int} (w : World) (h : 0 < n) (h2 : n ≤ 9223372036854775807) (hi : spotV a n = i) : Calls Try.prog 19 #[.int .i64 a, .int .i64 n] w fun e w' => e = .returned (.int .i64 i) ∧ w = w' := by
  subst hi; exact spot_any a n w h h2
theorem pack_least_len : 10 ≤ (packB leastM).length := by
  rw [pack_len]
  have h : 1 ≤ (encC leastM).length := by unfold encC; rw [List.length_append]; have := encN_pos (leastM.texts.length : Int); omega
  rw [List.length_append]
  have : headB.length = 5 := rfl
  omega
theorem pack_len_le {c : CodeM} (hs : (soundM c).1 = 0) (ho : okNums c) : (packB c).length ≤ 500000004 := by
  have h := (pack_bound hs ho).2.2.2 c.funcs.length
  rw [packF_all] at h
  rw [pack_len]; omega
theorem pack_least : ∃ X : List UInt8, X = packB leastM ∧ 10 ≤ X.length ∧ X.length ≤ 500000004 ∧ ∀ (w : World) (v : Value), RdCode w v leastM → Calls Try.prog 24 #[v] w fun e w' => (∃ A c, e = .returned (.tuple #[.slice A X.length c, .int .i64 0]) ∧ OwnB w' w.heap.size (.slice A X.length c) X) ∧ Kp w w' := by
  have ho : okNums leastM := fun f hf i hi => by
    unfold leastM at hf; simp at hf; subst hf; simp at hi; subst hi
    exact ⟨⟨by decide, by decide⟩, ⟨by decide, by decide⟩, ⟨by decide, by decide⟩, ⟨by decide, by decide⟩, ⟨by decide, by decide⟩, ⟨by decide, by decide⟩⟩
  have hs : (soundM leastM).1 = 0 := by rw [least_sound]
  refine ⟨_, rfl, pack_least_len, pack_len_le hs ho, fun w v h => (pack_ok w v leastM h hs).mono ?_⟩
  rintro e w' ⟨⟨v', rfl, hown⟩, hk⟩
  obtain ⟨A, c, rfl⟩ := own_form hown
  exact ⟨⟨A, c, rfl, hown⟩, hk⟩
set_option maxRecDepth 20000 in
set_option maxHeartbeats 8000000 in
theorem walk (v0 : Value) (a0 : CodeM) (a1 : Int) (a2 : Int) (w : World) (w0 : RdCode w v0 a0) (w1 : (Lit.int .i64 a1).wf = true) (w2 : (Lit.int .i64 a2).wf = true) :
    Calls Try.prog 13 #[v0, .int .i64 a1, .int .i64 a2] w fun e w' => e = .returned (.bool true) ∧ Kp w w' := by
  have HC := hid w0
  obtain ⟨lf, lt, rfl, hf, hfl, ht, htl⟩ := w0
  obtain ⟨Af, cf, rfl, _⟩ := hf.form
  obtain ⟨At, ct, rfl, _⟩ := ht.form
  have HON := hid (okNums_of hf)
  clear hf hfl ht htl w1 w2
  have HKA := hid (show Kp w (w.alloc (.cells #[.slice Af a0.funcs.length cf, .slice At a0.texts.length ct] 53)) from (Kp.refl _).alloc _)
  obtain ⟨X, hxe, hx1, hx2, hpl⟩ := pack_least
  have HPL := hid hpl
  have HXE := hid hxe
  have HXL := hid (And.intro hx1 hx2)
  clear hxe
  have i10 : ¬ (X.length : Int) < 10 := by omega
  clear hpl hx1 hx2
  by_cases hs : (soundM a0).1 = 0
  · have HS := hid hs
    have HLE := hid (pack_len_le hs HON.out)
    have HGE := hid (show 9 ≤ (packB a0).length by
      rw [pack_len, List.length_append]
      have : headB.length = 5 := rfl
      omega)
    generalize hP : packB a0 = B at HLE HGE
    have HP := hid hP
    have HBC := hid hP
    clear hs hP
    go_enter Try.func13, Try.ntmps13
    go_upto_region 2 with first | (go_at_call 28; go_must (refine (copied_any _ _ a0 (HC.out.kp HKA.out)).mono ?_); rintro e w1 ⟨⟨v1, rfl, ho1⟩, hk1⟩; have HO1 := hid ho1; have HK1 := hid (Kp.trans (show Kp w _ from HKA.out) hk1); clear ho1 hk1) | (go_at_call 24; go_must (refine (pack_ok _ _ a0 HO1.out.rd HS.out).mono ?_); rintro e w2 ⟨⟨v2, rfl, hp2⟩, hk2⟩; rw [HP.out] at hp2; obtain ⟨A2, c2, rfl⟩ := own_form hp2; have HP2 := hid hp2; have HK2 := hid (Kp.trans HK1.out hk2); clear hp2 hk2)
    go_upto_region 7 with first | (go_at_call 29; go_must (refine (least_any _).mono ?_); rintro e w3 ⟨⟨v3, rfl, ho3⟩, hk3⟩; have HO3 := hid ho3; have HK3 := hid (Kp.trans HK2.out hk3); have HK23 := hid hk3; clear ho3 hk3) | (go_at_call 24; go_must (refine (HPL.out _ _ HO3.out.rd).mono ?_); rintro e w4 ⟨⟨A4, c4, rfl, hx4⟩, hk4⟩; have HX4 := hid hx4; have HK4 := hid (Kp.trans HK3.out hk4); have HK24 := hid (Kp.trans HK23.out hk4); clear hx4 hk4)
    have HRS := hid ((RdBytes.of_own HP2.out (Nat.le_trans HLE.out (by decide))).kp HK24.out)
    go_upto_region 8 with (at_builtin; go_must (refine app_src elByte rfl (.const (.slice none 0 0)) (.tmp 31) rfl (World.ownsRow_nil _ w4.heap.size _ _) rfl (B.map byteV) _ _ _ rfl (by simp) (HRS.out.src).2 (oneByte _) (by have := HLE.out; unfold maxLen; omega) (by have := HLE.out; omega) (Nat.le_refl _) ?_); intro v5 w5 hown5 hg5 hm5 hb5; have HB5 : Hid (OwnB w5 w4.heap.size v5 B) := hid (by unfold OwnB; rw [Nat.zero_add] at hown5; exact hown5); have HK5 := hid (Kp.trans HK4.out (show Kp w4 w5 from hb5)); clear hown5 hg5 hm5 hb5; obtain ⟨g, cp, rfl, hcp, hge, hgl⟩ := HB5.out.some_ (by have := HGE.out; omega))
    obtain ⟨i, hi⟩ : ∃ i : Nat, spotV a1 (B.length : Int) = i := ⟨(spotV a1 (B.length : Int)).toNat, by have := spotV_bd a1 (B.length : Int) (by have := HGE.out; omega); omega⟩
    obtain ⟨j, hj⟩ : ∃ j : Nat, spotV a2 255 = j := ⟨(spotV a2 255).toNat, by have := spotV_bd a2 255 (by omega); omega⟩
    have hib : i < B.length := by have := spotV_bd a1 (B.length : Int) (by have := HGE.out; omega); omega
    have hjb : j < 255 := by have := spotV_bd a2 255 (by omega); omega
    have HI := hid hi
    have HJ := hid hj
    have i1 : (i : Int) < (B.length : Int) := by omega
    have hcell := (rowAt HB5.out (j := i) (by omega)).1
    rw [List.getElem?_map, List.getElem?_eq_getElem hib] at hcell
    have hfz := (rowAt HB5.out (j := i) (by omega)).2
    obtain ⟨bi, hbi⟩ : ∃ bi, B.getD i 0 = bi := ⟨_, rfl⟩
    have hbi2 : B[i] = bi := by rw [← hbi]; simp [List.getD, List.getElem?_eq_getElem hib]
    rw [hbi2] at hcell
    have hcell : w5.cell? ⟨g, i, none⟩ = some (.int .u8 (bi.toNat : Int)) := hcell
    have hx := xor_u8 bi.toNat (1 + j) (UInt8.toNat_lt _) (by omega)
    have hxl : bi.toNat ^^^ (1 + j) < 256 := Nat.xor_lt_two_pow (n := 8) (UInt8.toNat_lt _) (by omega)
    have hxn := xor_ne bi.toNat (1 + j) (by omega)
    obtain ⟨yb, hy⟩ : ∃ yb : UInt8, yb.toNat = bi.toNat ^^^ (1 + j) := ⟨UInt8.ofNat (bi.toNat ^^^ (1 + j)), by rw [UInt8.toNat_ofNat']; omega⟩
    have hyb : bi ≠ yb := fun h => hxn (by rw [← hy, ← h])
    rw [← hy] at hx
    have hx2 : bits .xor .u8 (bi.toNat : Int) (1 + (j : Int)) = (yb.toNat : Int) := by rw [← hx]; first | rfl | (congr 1; omega)
    obtain ⟨er, her, hun⟩ := turned_set HBC.out hib (by rw [hbi]; exact hyb)
    have HUN := hid hun
    have e9 : (er != 0) = true := by simp; omega
    have k1 : IntKind.i64.wrap (1 + (j : Int)) = 1 + (j : Int) := by rw [IntKind.wrap_i64]; omega
    have k2 : IntKind.u8.wrap (1 + (j : Int)) = 1 + (j : Int) := by rw [IntKind.wrap_u8]; omega
    have HBP := hid (show (0 : Int) < (B.length : Int) ∧ (B.length : Int) ≤ 9223372036854775807 by have := HGE.out; have := HLE.out; omega)
    have HIB := hid hib
    clear hi hj hbi hbi2 hx hxl hxn hy hyb hun her hjb hib hcp
    refine wp_region_last 13 [[], [], [], [2], [1, 3], [0, 4], [5], [], [7], [8], [9], [6, 10], [0, 4], [11, 12]] (fun u => Kp w5 u)
      [fun (y : Value) (u : World) => y = (.slice (some ⟨g, 0, none⟩) B.length cp : Value),
       fun (y : Value) (u : World) => y = (.int .i64 a1 : Value),
       fun (y : Value) (u : World) => y = (.slice (some ⟨g, 0, none⟩) B.length cp : Value),
       fun (y : Value) (u : World) => y = (.int .i64 (B.length : Int) : Value),
       fun (y : Value) (u : World) => y = (.int .i64 (i : Int) : Value),
       fun (y : Value) (u : World) => y = (.pointer (some ⟨g, i, none⟩) : Value),
       fun (y : Value) (u : World) => y = (.int .u8 (bi.toNat : Int) : Value),
       fun (y : Value) (u : World) => y = (.int .i64 a2 : Value),
       fun (y : Value) (u : World) => y = (.int .i64 (j : Int) : Value),
       fun (y : Value) (u : World) => y = (.int .i64 (1 + (j : Int)) : Value),
       fun (y : Value) (u : World) => y = (.int .u8 (1 + (j : Int)) : Value),
       fun (y : Value) (u : World) => y = (.int .u8 (yb.toNat : Int) : Value),
       fun (y : Value) (u : World) => y = (.pointer (some ⟨g, i, none⟩) : Value)]
      (by kernel_rfl) (by kernel_rfl) (by kernel_rfl) (by kernel_rfl) (by kernel_rfl) (by kernel_rfl) ((Kp.refl _).drew) (fun _ _ hk h => h.trans hk) ⟨fun _ _ _ _ h => h, fun _ _ _ _ h => h, fun _ _ _ _ h => h, fun _ _ _ _ h => h, fun _ _ _ _ h => h, fun _ _ _ _ h => h, fun _ _ _ _ h => h, fun _ _ _ _ h => h, fun _ _ _ _ h => h, fun _ _ _ _ h => h, fun _ _ _ _ h => h, fun _ _ _ _ h => h, fun _ _ _ _ h => h, trivial⟩ ⟨?sb0, ?sb1, ?sb2, ?sb3, ?sb4, ?sb5, ?sb6, ?sb7, ?sb8, ?sb9, ?sb10, ?sb11, ?sb12, trivial⟩ ⟨?hEb, trivial⟩
    case sb0 =>
      intro x u hg hd K hK
      clear hd
      refine ⟨?_⟩
      simp only [putsFrom, Act.put, List.setIfInBounds_toArray, List.set_cons_zero, List.set_cons_succ, Nat.reduceAdd] at hK ⊢
      go_simp
      exact hK.out _ _ (Kp.refl _) rfl
    case sb1 =>
      intro x u hg hd K hK
      clear hd
      refine ⟨?_⟩
      simp only [putsFrom, Act.put, List.setIfInBounds_toArray, List.set_cons_zero, List.set_cons_succ, Nat.reduceAdd] at hK ⊢
      go_simp
      exact hK.out _ _ (Kp.refl _) rfl
    case sb2 =>
      intro x u hg hd K hK
      clear hd
      refine ⟨?_⟩
      simp only [putsFrom, Act.put, List.setIfInBounds_toArray, List.set_cons_zero, List.set_cons_succ, Nat.reduceAdd] at hK ⊢
      go_simp
      exact hK.out _ _ (Kp.refl _) rfl
    case sb3 =>
      intro x u hg hd K hK
      have d2 : (x 2) = .slice (some ⟨g, 0, none⟩) B.length cp := And.left hd
      clear hd
      refine ⟨?_⟩
      simp only [putsFrom, Act.put, List.setIfInBounds_toArray, List.set_cons_zero, List.set_cons_succ, Nat.reduceAdd, d2] at hK ⊢
      go_simp
      exact hK.out _ _ (Kp.refl _) rfl
    case sb4 =>
      intro x u hg hd K hK
      have d1 : (x 1) = .int .i64 a1 := And.left hd
      have d3 : (x 3) = .int .i64 (B.length : Int) := And.left (And.right hd)
      clear hd
      refine ⟨?_⟩
      simp only [putsFrom, Act.put, List.setIfInBounds_toArray, List.set_cons_zero, List.set_cons_succ, Nat.reduceAdd, d1, d3] at hK ⊢
      go_simp
      go_at_call 19
      have hc := (spot_is u HBP.out.1 HBP.out.2 HI.out)
      refine hc.mono ?_
      clear hc
      rintro e u' ⟨rfl, rfl⟩
      dsimp only
      exact hK.out _ _ (Kp.refl _) rfl
    case sb5 =>
      intro x u hg hd K hK
      have d0 : (x 0) = .slice (some ⟨g, 0, none⟩) B.length cp := And.left hd
      have d4 : (x 4) = .int .i64 (i : Int) := And.left (And.right hd)
      clear hd
      refine ⟨?_⟩
      simp only [putsFrom, Act.put, List.setIfInBounds_toArray, List.set_cons_zero, List.set_cons_succ, Nat.reduceAdd, d0, d4] at hK ⊢
      go_simp
      exact hK.out _ _ (Kp.refl _) rfl
    case sb6 =>
      intro x u hg hd K hK
      have d5 : (x 5) = .pointer (some ⟨g, i, none⟩) := And.left hd
      clear hd
      have q := cell_kp hg hgl hcell
      refine ⟨?_⟩
      simp only [putsFrom, Act.put, List.setIfInBounds_toArray, List.set_cons_zero, List.set_cons_succ, Nat.reduceAdd, d5] at hK ⊢
      go_simp
      exact hK.out _ _ (Kp.refl _) rfl
    case sb7 =>
      intro x u hg hd K hK
      clear hd
      refine ⟨?_⟩
      simp only [putsFrom, Act.put, List.setIfInBounds_toArray, List.set_cons_zero, List.set_cons_succ, Nat.reduceAdd] at hK ⊢
      go_simp
      exact hK.out _ _ (Kp.refl _) rfl
    case sb8 =>
      intro x u hg hd K hK
      have d7 : (x 7) = .int .i64 a2 := And.left hd
      clear hd
      refine ⟨?_⟩
      simp only [putsFrom, Act.put, List.setIfInBounds_toArray, List.set_cons_zero, List.set_cons_succ, Nat.reduceAdd, d7] at hK ⊢
      go_simp
      go_at_call 19
      have hc := (spot_is u (by omega) (by omega) HJ.out)
      refine hc.mono ?_
      clear hc
      rintro e u' ⟨rfl, rfl⟩
      dsimp only
      exact hK.out _ _ (Kp.refl _) rfl
    case sb9 =>
      intro x u hg hd K hK
      have d8 : (x 8) = .int .i64 (j : Int) := And.left hd
      clear hd
      refine ⟨?_⟩
      simp only [putsFrom, Act.put, List.setIfInBounds_toArray, List.set_cons_zero, List.set_cons_succ, Nat.reduceAdd, d8] at hK ⊢
      go_simp
      exact hK.out _ _ (Kp.refl _) rfl
    case sb10 =>
      intro x u hg hd K hK
      have d9 : (x 9) = .int .i64 (1 + (j : Int)) := And.left hd
      clear hd
      refine ⟨?_⟩
      simp only [putsFrom, Act.put, List.setIfInBounds_toArray, List.set_cons_zero, List.set_cons_succ, Nat.reduceAdd, d9] at hK ⊢
      go_simp
      exact hK.out _ _ (Kp.refl _) rfl
    case sb11 =>
      intro x u hg hd K hK
      have d6 : (x 6) = .int .u8 (bi.toNat : Int) := And.left hd
      have d10 : (x 10) = .int .u8 (1 + (j : Int)) := And.left (And.right hd)
      clear hd
      refine ⟨?_⟩
      simp only [putsFrom, Act.put, List.setIfInBounds_toArray, List.set_cons_zero, List.set_cons_succ, Nat.reduceAdd, d6, d10] at hK ⊢
      go_simp
      exact hK.out _ _ (Kp.refl _) rfl
    case sb12 =>
      intro x u hg hd K hK
      have d0 : (x 0) = .slice (some ⟨g, 0, none⟩) B.length cp := And.left hd
      have d4 : (x 4) = .int .i64 (i : Int) := And.left (And.right hd)
      clear hd
      refine ⟨?_⟩
      simp only [putsFrom, Act.put, List.setIfInBounds_toArray, List.set_cons_zero, List.set_cons_succ, Nat.reduceAdd, d0, d4] at hK ⊢
      go_simp
      exact hK.out _ _ (Kp.refl _) rfl
    intro x u hg he K hK
    have d0 : (x 0) = .slice (some ⟨g, 0, none⟩) B.length cp := And.left he
    have d1 : (x 1) = .int .i64 a1 := And.left (And.right he)
    have d2 : (x 2) = .slice (some ⟨g, 0, none⟩) B.length cp := And.left (And.right (And.right he))
    have d3 : (x 3) = .int .i64 (B.length : Int) := And.left (And.right (And.right (And.right he)))
    have d4 : (x 4) = .int .i64 (i : Int) := And.left (And.right (And.right (And.right (And.right he))))
    have d5 : (x 5) = .pointer (some ⟨g, i, none⟩) := And.left (And.right (And.right (And.right (And.right (And.right he)))))
    have d6 : (x 6) = .int .u8 (bi.toNat : Int) := And.left (And.right (And.right (And.right (And.right (And.right (And.right he))))))
    have d7 : (x 7) = .int .i64 a2 := And.left (And.right (And.right (And.right (And.right (And.right (And.right (And.right he)))))))
    have d8 : (x 8) = .int .i64 (j : Int) := And.left (And.right (And.right (And.right (And.right (And.right (And.right (And.right (And.right he))))))))
    have d9 : (x 9) = .int .i64 (1 + (j : Int)) := And.left (And.right (And.right (And.right (And.right (And.right (And.right (And.right (And.right (And.right he)))))))))
    have d10 : (x 10) = .int .u8 (1 + (j : Int)) := And.left (And.right (And.right (And.right (And.right (And.right (And.right (And.right (And.right (And.right (And.right he))))))))))
    have d11 : (x 11) = .int .u8 (yb.toNat : Int) := And.left (And.right (And.right (And.right (And.right (And.right (And.right (And.right (And.right (And.right (And.right (And.right he)))))))))))
    have d12 : (x 12) = .pointer (some ⟨g, i, none⟩) := And.left (And.right (And.right (And.right (And.right (And.right (And.right (And.right (And.right (And.right (And.right (And.right (And.right he))))))))))))
    clear he
    have q := cell_kp hg hgl hcell
    have qf := (hg.cells.2 _ i hgl).trans hfz
    refine ⟨?_⟩
    simp only [putsFrom, Act.put, List.setIfInBounds_toArray, List.set_cons_zero, List.set_cons_succ, Nat.reduceAdd, d0, d1, d2, d3, d4, d5, d6, d7, d8, d9, d10, d11, d12] at hK ⊢
    go_simp
    refine hK.out undef _ ⟨?_⟩
    clear hK
    clear d0 d1 d2 d3 d4 d5 d6 d7 d8 d9 d10 d11 d12
    have HKG := hid hg
    have HBS := hid (OwnB.setB (show OwnB u w4.heap.size (.slice (some ⟨g, 0, none⟩) B.length cp) B from ownsRow_keep HB5.out hg) rfl HIB.out yb)
    have HKS := hid (((Kp.trans HK5.out hg).setCell (p := ⟨g, i, none⟩) (by have := HK4.out.le; show w.heap.size ≤ g; omega) (.int .u8 (yb.toNat : Int))))
    have HSL := hid (show (B.set i yb).length ≤ 1073741824 by rw [List.length_set]; have := HLE.out; omega)
    clear hg hcell hfz hx2 k1 k2 hge hgl
    generalize (u.setCell ⟨g, i, none⟩ (.int .u8 (yb.toNat : Int))) = W6 at HBS HKS ⊢
    go_wp2_with (go_at_call 26; go_must (refine (unpack_any _ _ (B.set i yb) (RdBytes.of_own HBS.out (by have := HSL.out; omega)) HSL.out).mono ?_); unfold UnP; rw [HUN.out]; rintro e w7 ⟨⟨v7, rfl, ho7⟩, hk7⟩; obtain ⟨vf, vt, rfl, hof, hot, hlf, hlt⟩ := ho7; obtain ⟨A8, c8, rfl⟩ := (show ∃ A cc, vf = .slice A 0 cc by obtain ⟨xs, h, _⟩ := hof; exact own_form h); obtain ⟨A9, c9, rfl⟩ := (show ∃ A cc, vt = .slice A 0 cc by obtain ⟨xs, h, _⟩ := hot; exact own_form h); have HK7 := hid (Kp.trans HKS.out hk7); clear hof hot hlf hlt hk7)
    go_ret
    exact ⟨rfl, HK7.out.alloc _⟩
  · have HER := hid (hs)
    have z9 : ((soundM a0).1 != 0) = true := by simpa using hs
    clear hs
    obtain ⟨B, hB⟩ : ∃ B, X = B := ⟨_, rfl⟩
    subst hB
    have HBC : Hid (packB leastM = X) := hid HXE.out.symm
    have HLE := hid HXL.out.2
    have HGE := hid (show 9 ≤ X.length by have := HXL.out.1; omega)
    go_enter Try.func13, Try.ntmps13
    go_upto_region 2 with first | (go_at_call 28; go_must (refine (copied_any _ _ a0 (HC.out.kp HKA.out)).mono ?_); rintro e w1 ⟨⟨v1, rfl, ho1⟩, hk1⟩; have HO1 := hid ho1; have HK1 := hid (Kp.trans (show Kp w _ from HKA.out) hk1); clear ho1 hk1) | (go_at_call 24; go_must (refine (pack_err _ _ a0 HO1.out.rd HER.out).mono ?_); rintro e w2 ⟨rfl, hk2⟩; have HK2 := hid (Kp.trans HK1.out hk2); clear hk2)
    go_upto_region 7 with first | (go_at_call 29; go_must (refine (least_any _).mono ?_); rintro e w3 ⟨⟨v3, rfl, ho3⟩, hk3⟩; have HO3 := hid ho3; have HK3 := hid (Kp.trans HK2.out hk3); have HK23 := hid hk3; clear ho3 hk3) | (go_at_call 24; go_must (refine (HPL.out _ _ HO3.out.rd).mono ?_); rintro e w4 ⟨⟨A4, c4, rfl, hx4⟩, hk4⟩; have HX4 := hid hx4; have HK4 := hid (Kp.trans HK3.out hk4); have HK24 := hid (Kp.trans HK23.out hk4); clear hx4 hk4)
    have HRS := hid (RdBytes.of_own HX4.out (Nat.le_trans HXL.out.2 (by decide)))
    go_upto_region 8 with (at_builtin; go_must (refine app_src elByte rfl (.const (.slice none 0 0)) (.tmp 31) rfl (World.ownsRow_nil _ w4.heap.size _ _) rfl (X.map byteV) _ _ _ rfl (by simp) (HRS.out.src).2 (oneByte _) (by have := HLE.out; unfold maxLen; omega) (by have := HLE.out; omega) (Nat.le_refl _) ?_); intro v5 w5 hown5 hg5 hm5 hb5; have HB5 : Hid (OwnB w5 w4.heap.size v5 X) := hid (by unfold OwnB; rw [Nat.zero_add] at hown5; exact hown5); have HK5 := hid (Kp.trans HK4.out (show Kp w4 w5 from hb5)); clear hown5 hg5 hm5 hb5; obtain ⟨g, cp, rfl, hcp, hge, hgl⟩ := HB5.out.some_ (by have := HGE.out; omega))
    obtain ⟨i, hi⟩ : ∃ i : Nat, spotV a1 (X.length : Int) = i := ⟨(spotV a1 (X.length : Int)).toNat, by have := spotV_bd a1 (X.length : Int) (by have := HGE.out; omega); omega⟩
    obtain ⟨j, hj⟩ : ∃ j : Nat, spotV a2 255 = j := ⟨(spotV a2 255).toNat, by have := spotV_bd a2 255 (by omega); omega⟩
    have hib : i < X.length := by have := spotV_bd a1 (X.length : Int) (by have := HGE.out; omega); omega
    have hjb : j < 255 := by have := spotV_bd a2 255 (by omega); omega
    have HI := hid hi
    have HJ := hid hj
    have i1 : (i : Int) < (X.length : Int) := by omega
    have hcell := (rowAt HB5.out (j := i) (by omega)).1
    rw [List.getElem?_map, List.getElem?_eq_getElem hib] at hcell
    have hfz := (rowAt HB5.out (j := i) (by omega)).2
    obtain ⟨bi, hbi⟩ : ∃ bi, X.getD i 0 = bi := ⟨_, rfl⟩
    have hbi2 : X[i] = bi := by rw [← hbi]; simp [List.getD, List.getElem?_eq_getElem hib]
    rw [hbi2] at hcell
    have hcell : w5.cell? ⟨g, i, none⟩ = some (.int .u8 (bi.toNat : Int)) := hcell
    have hx := xor_u8 bi.toNat (1 + j) (UInt8.toNat_lt _) (by omega)
    have hxl : bi.toNat ^^^ (1 + j) < 256 := Nat.xor_lt_two_pow (n := 8) (UInt8.toNat_lt _) (by omega)
    have hxn := xor_ne bi.toNat (1 + j) (by omega)
    obtain ⟨yb, hy⟩ : ∃ yb : UInt8, yb.toNat = bi.toNat ^^^ (1 + j) := ⟨UInt8.ofNat (bi.toNat ^^^ (1 + j)), by rw [UInt8.toNat_ofNat']; omega⟩
    have hyb : bi ≠ yb := fun h => hxn (by rw [← hy, ← h])
    rw [← hy] at hx
    have hx2 : bits .xor .u8 (bi.toNat : Int) (1 + (j : Int)) = (yb.toNat : Int) := by rw [← hx]; first | rfl | (congr 1; omega)
    obtain ⟨er, her, hun⟩ := turned_set HBC.out hib (by rw [hbi]; exact hyb)
    have HUN := hid hun
    have e9 : (er != 0) = true := by simp; omega
    have k1 : IntKind.i64.wrap (1 + (j : Int)) = 1 + (j : Int) := by rw [IntKind.wrap_i64]; omega
    have k2 : IntKind.u8.wrap (1 + (j : Int)) = 1 + (j : Int) := by rw [IntKind.wrap_u8]; omega
    have HBP := hid (show (0 : Int) < (X.length : Int) ∧ (X.length : Int) ≤ 9223372036854775807 by have := HGE.out; have := HLE.out; omega)
    have HIB := hid hib
    clear hi hj hbi hbi2 hx hxl hxn hy hyb hun her hjb hib hcp
    refine wp_region_last 13 [[], [], [], [2], [1, 3], [0, 4], [5], [], [7], [8], [9], [6, 10], [0, 4], [11, 12]] (fun u => Kp w5 u)
      [fun (y : Value) (u : World) => y = (.slice (some ⟨g, 0, none⟩) X.length cp : Value),
       fun (y : Value) (u : World) => y = (.int .i64 a1 : Value),
       fun (y : Value) (u : World) => y = (.slice (some ⟨g, 0, none⟩) X.length cp : Value),
       fun (y : Value) (u : World) => y = (.int .i64 (X.length : Int) : Value),
       fun (y : Value) (u : World) => y = (.int .i64 (i : Int) : Value),
       fun (y : Value) (u : World) => y = (.pointer (some ⟨g, i, none⟩) : Value),
       fun (y : Value) (u : World) => y = (.int .u8 (bi.toNat : Int) : Value),
       fun (y : Value) (u : World) => y = (.int .i64 a2 : Value),
       fun (y : Value) (u : World) => y = (.int .i64 (j : Int) : Value),
       fun (y : Value) (u : World) => y = (.int .i64 (1 + (j : Int)) : Value),
       fun (y : Value) (u : World) => y = (.int .u8 (1 + (j : Int)) : Value),
       fun (y : Value) (u : World) => y = (.int .u8 (yb.toNat : Int) : Value),
       fun (y : Value) (u : World) => y = (.pointer (some ⟨g, i, none⟩) : Value)]
      (by kernel_rfl) (by kernel_rfl) (by kernel_rfl) (by kernel_rfl) (by kernel_rfl) (by kernel_rfl) ((Kp.refl _).drew) (fun _ _ hk h => h.trans hk) ⟨fun _ _ _ _ h => h, fun _ _ _ _ h => h, fun _ _ _ _ h => h, fun _ _ _ _ h => h, fun _ _ _ _ h => h, fun _ _ _ _ h => h, fun _ _ _ _ h => h, fun _ _ _ _ h => h, fun _ _ _ _ h => h, fun _ _ _ _ h => h, fun _ _ _ _ h => h, fun _ _ _ _ h => h, fun _ _ _ _ h => h, trivial⟩ ⟨?sc0, ?sc1, ?sc2, ?sc3, ?sc4, ?sc5, ?sc6, ?sc7, ?sc8, ?sc9, ?sc10, ?sc11, ?sc12, trivial⟩ ⟨?hEc, trivial⟩
    case sc0 =>
      intro x u hg hd K hK
      clear hd
      refine ⟨?_⟩
      simp only [putsFrom, Act.put, List.setIfInBounds_toArray, List.set_cons_zero, List.set_cons_succ, Nat.reduceAdd] at hK ⊢
      go_simp
      exact hK.out _ _ (Kp.refl _) rfl
    case sc1 =>
      intro x u hg hd K hK
      clear hd
      refine ⟨?_⟩
      simp only [putsFrom, Act.put, List.setIfInBounds_toArray, List.set_cons_zero, List.set_cons_succ, Nat.reduceAdd] at hK ⊢
      go_simp
      exact hK.out _ _ (Kp.refl _) rfl
    case sc2 =>
      intro x u hg hd K hK
      clear hd
      refine ⟨?_⟩
      simp only [putsFrom, Act.put, List.setIfInBounds_toArray, List.set_cons_zero, List.set_cons_succ, Nat.reduceAdd] at hK ⊢
      go_simp
      exact hK.out _ _ (Kp.refl _) rfl
    case sc3 =>
      intro x u hg hd K hK
      have d2 : (x 2) = .slice (some ⟨g, 0, none⟩) X.length cp := And.left hd
      clear hd
      refine ⟨?_⟩
      simp only [putsFrom, Act.put, List.setIfInBounds_toArray, List.set_cons_zero, List.set_cons_succ, Nat.reduceAdd, d2] at hK ⊢
      go_simp
      exact hK.out _ _ (Kp.refl _) rfl
    case sc4 =>
      intro x u hg hd K hK
      have d1 : (x 1) = .int .i64 a1 := And.left hd
      have d3 : (x 3) = .int .i64 (X.length : Int) := And.left (And.right hd)
      clear hd
      refine ⟨?_⟩
      simp only [putsFrom, Act.put, List.setIfInBounds_toArray, List.set_cons_zero, List.set_cons_succ, Nat.reduceAdd, d1, d3] at hK ⊢
      go_simp
      go_at_call 19
      have hc := (spot_is u HBP.out.1 HBP.out.2 HI.out)
      refine hc.mono ?_
      clear hc
      rintro e u' ⟨rfl, rfl⟩
      dsimp only
      exact hK.out _ _ (Kp.refl _) rfl
    case sc5 =>
      intro x u hg hd K hK
      have d0 : (x 0) = .slice (some ⟨g, 0, none⟩) X.length cp := And.left hd
      have d4 : (x 4) = .int .i64 (i : Int) := And.left (And.right hd)
      clear hd
      refine ⟨?_⟩
      simp only [putsFrom, Act.put, List.setIfInBounds_toArray, List.set_cons_zero, List.set_cons_succ, Nat.reduceAdd, d0, d4] at hK ⊢
      go_simp
      exact hK.out _ _ (Kp.refl _) rfl
    case sc6 =>
      intro x u hg hd K hK
      have d5 : (x 5) = .pointer (some ⟨g, i, none⟩) := And.left hd
      clear hd
      have q := cell_kp hg hgl hcell
      refine ⟨?_⟩
      simp only [putsFrom, Act.put, List.setIfInBounds_toArray, List.set_cons_zero, List.set_cons_succ, Nat.reduceAdd, d5] at hK ⊢
      go_simp
      exact hK.out _ _ (Kp.refl _) rfl
    case sc7 =>
      intro x u hg hd K hK
      clear hd
      refine ⟨?_⟩
      simp only [putsFrom, Act.put, List.setIfInBounds_toArray, List.set_cons_zero, List.set_cons_succ, Nat.reduceAdd] at hK ⊢
      go_simp
      exact hK.out _ _ (Kp.refl _) rfl
    case sc8 =>
      intro x u hg hd K hK
      have d7 : (x 7) = .int .i64 a2 := And.left hd
      clear hd
      refine ⟨?_⟩
      simp only [putsFrom, Act.put, List.setIfInBounds_toArray, List.set_cons_zero, List.set_cons_succ, Nat.reduceAdd, d7] at hK ⊢
      go_simp
      go_at_call 19
      have hc := (spot_is u (by omega) (by omega) HJ.out)
      refine hc.mono ?_
      clear hc
      rintro e u' ⟨rfl, rfl⟩
      dsimp only
      exact hK.out _ _ (Kp.refl _) rfl
    case sc9 =>
      intro x u hg hd K hK
      have d8 : (x 8) = .int .i64 (j : Int) := And.left hd
      clear hd
      refine ⟨?_⟩
      simp only [putsFrom, Act.put, List.setIfInBounds_toArray, List.set_cons_zero, List.set_cons_succ, Nat.reduceAdd, d8] at hK ⊢
      go_simp
      exact hK.out _ _ (Kp.refl _) rfl
    case sc10 =>
      intro x u hg hd K hK
      have d9 : (x 9) = .int .i64 (1 + (j : Int)) := And.left hd
      clear hd
      refine ⟨?_⟩
      simp only [putsFrom, Act.put, List.setIfInBounds_toArray, List.set_cons_zero, List.set_cons_succ, Nat.reduceAdd, d9] at hK ⊢
      go_simp
      exact hK.out _ _ (Kp.refl _) rfl
    case sc11 =>
      intro x u hg hd K hK
      have d6 : (x 6) = .int .u8 (bi.toNat : Int) := And.left hd
      have d10 : (x 10) = .int .u8 (1 + (j : Int)) := And.left (And.right hd)
      clear hd
      refine ⟨?_⟩
      simp only [putsFrom, Act.put, List.setIfInBounds_toArray, List.set_cons_zero, List.set_cons_succ, Nat.reduceAdd, d6, d10] at hK ⊢
      go_simp
      exact hK.out _ _ (Kp.refl _) rfl
    case sc12 =>
      intro x u hg hd K hK
      have d0 : (x 0) = .slice (some ⟨g, 0, none⟩) X.length cp := And.left hd
      have d4 : (x 4) = .int .i64 (i : Int) := And.left (And.right hd)
      clear hd
      refine ⟨?_⟩
      simp only [putsFrom, Act.put, List.setIfInBounds_toArray, List.set_cons_zero, List.set_cons_succ, Nat.reduceAdd, d0, d4] at hK ⊢
      go_simp
      exact hK.out _ _ (Kp.refl _) rfl
    intro x u hg he K hK
    have d0 : (x 0) = .slice (some ⟨g, 0, none⟩) X.length cp := And.left he
    have d1 : (x 1) = .int .i64 a1 := And.left (And.right he)
    have d2 : (x 2) = .slice (some ⟨g, 0, none⟩) X.length cp := And.left (And.right (And.right he))
    have d3 : (x 3) = .int .i64 (X.length : Int) := And.left (And.right (And.right (And.right he)))
    have d4 : (x 4) = .int .i64 (i : Int) := And.left (And.right (And.right (And.right (And.right he))))
    have d5 : (x 5) = .pointer (some ⟨g, i, none⟩) := And.left (And.right (And.right (And.right (And.right (And.right he)))))
    have d6 : (x 6) = .int .u8 (bi.toNat : Int) := And.left (And.right (And.right (And.right (And.right (And.right (And.right he))))))
    have d7 : (x 7) = .int .i64 a2 := And.left (And.right (And.right (And.right (And.right (And.right (And.right (And.right he)))))))
    have d8 : (x 8) = .int .i64 (j : Int) := And.left (And.right (And.right (And.right (And.right (And.right (And.right (And.right (And.right he))))))))
    have d9 : (x 9) = .int .i64 (1 + (j : Int)) := And.left (And.right (And.right (And.right (And.right (And.right (And.right (And.right (And.right (And.right he)))))))))
    have d10 : (x 10) = .int .u8 (1 + (j : Int)) := And.left (And.right (And.right (And.right (And.right (And.right (And.right (And.right (And.right (And.right (And.right he))))))))))
    have d11 : (x 11) = .int .u8 (yb.toNat : Int) := And.left (And.right (And.right (And.right (And.right (And.right (And.right (And.right (And.right (And.right (And.right (And.right he)))))))))))
    have d12 : (x 12) = .pointer (some ⟨g, i, none⟩) := And.left (And.right (And.right (And.right (And.right (And.right (And.right (And.right (And.right (And.right (And.right (And.right (And.right he))))))))))))
    clear he
    have q := cell_kp hg hgl hcell
    have qf := (hg.cells.2 _ i hgl).trans hfz
    refine ⟨?_⟩
    simp only [putsFrom, Act.put, List.setIfInBounds_toArray, List.set_cons_zero, List.set_cons_succ, Nat.reduceAdd, d0, d1, d2, d3, d4, d5, d6, d7, d8, d9, d10, d11, d12] at hK ⊢
    go_simp
    refine hK.out undef _ ⟨?_⟩
    clear hK
    clear d0 d1 d2 d3 d4 d5 d6 d7 d8 d9 d10 d11 d12
    have HKG := hid hg
    have HBS := hid (OwnB.setB (show OwnB u w4.heap.size (.slice (some ⟨g, 0, none⟩) X.length cp) X from ownsRow_keep HB5.out hg) rfl HIB.out yb)
    have HKS := hid (((Kp.trans HK5.out hg).setCell (p := ⟨g, i, none⟩) (by have := HK4.out.le; show w.heap.size ≤ g; omega) (.int .u8 (yb.toNat : Int))))
    have HSL := hid (show (X.set i yb).length ≤ 1073741824 by rw [List.length_set]; have := HLE.out; omega)
    clear hg hcell hfz hx2 k1 k2 hge hgl
    generalize (u.setCell ⟨g, i, none⟩ (.int .u8 (yb.toNat : Int))) = W6 at HBS HKS ⊢
    go_wp2_with (go_at_call 26; go_must (refine (unpack_any _ _ (X.set i yb) (RdBytes.of_own HBS.out (by have := HSL.out; omega)) HSL.out).mono ?_); unfold UnP; rw [HUN.out]; rintro e w7 ⟨⟨v7, rfl, ho7⟩, hk7⟩; obtain ⟨vf, vt, rfl, hof, hot, hlf, hlt⟩ := ho7; obtain ⟨A8, c8, rfl⟩ := (show ∃ A cc, vf = .slice A 0 cc by obtain ⟨xs, h, _⟩ := hof; exact own_form h); obtain ⟨A9, c9, rfl⟩ := (show ∃ A cc, vt = .slice A 0 cc by obtain ⟨xs, h, _⟩ := hot; exact own_form h); have HK7 := hid (Kp.trans HKS.out hk7); clear hof hot hlf hlt hk7)
    go_ret
    exact ⟨rfl, HK7.out.alloc _⟩
/-! ### The row's step (the guide's frame, written by program) -/
set_option maxRecDepth 100000 in
theorem lifted (os : Os) (started : os.Started) (H : Type) (enc : TypeId × Value → H) :
    ReturnsInHanded {} Try.checked os 13 .any (Rows.imageTurnedSpec.pre6 enc Try.prog Try.f13 Rows.imageTurnedRow.domain false) (Rows.imageTurnedSpec.post enc Try.prog Try.f13 false true false false) := by
  refine returnsInHanded_of_change_sized (C := Try.checked) own started (by kernel_rfl) Try.func13
    (ChangeSpec.witness6 (enc := enc) (C := Try.checked) false ⟨#[], #[.agg #[.slice none 0 0, .slice none 0 0], .int .i64 0, .int .i64 0], []⟩ 8 (by kernel_rfl) (by kernel_rfl) (by kernel_rfl) (by kernel_rfl)) ?_
  intro W base args ds gs before hval0 hW _ hsz0 _
  have hsz : (DataW.weightsEach Try.prog (Try.f13.params.toList ++ Rows.imageTurnedSpec.plain.varTypes Try.prog) (ds ++ gs)).all (· ≤ reachBytes) = true := hsz0
  clear hsz0
  have hval : ∀ (j : Nat) t v, Try.f13.params[j]? = some t → args[j]? = some v → Value.okWide Try.prog W .any base t v := hval0
  have hW' := hW
  obtain ⟨p, q, hA0, hV, rfl, hfz, hnd⟩ := hW
  have hA : DataW.TrodAll enc Try.prog W 0 (fun _ => true) true Try.f13.params.toList args.toList ds p := hA0
  rw [Try.params13] at hA hval hsz
  obtain ⟨v0, vs0, d0, ds0, p0, q0, hargs, rfl, rfl, h0, r0⟩ := trodAll_cons hA
  obtain ⟨v1, vs1, d1, ds1, p1, q1, rfl, rfl, rfl, h1, r1⟩ := trodAll_cons r0
  obtain ⟨v2, vs2, d2, ds2, p2, q2, rfl, rfl, rfl, h2, r2⟩ := trodAll_cons r1
  obtain ⟨rfl, rfl, rfl⟩ := trodAll_nil r2
  obtain rfl : args = #[v0, v1, v2] := by cases args; simp_all
  obtain ⟨rfl, rfl⟩ := trodVars_none hV
  have k0 := h0
  have lt0 : ∀ x ∈ p0, x.block < W.heap.size := by obtain ⟨m, hm⟩ := k0; exact DataW.trod_lt m _ _ _ hm
  have hz0 : ∀ n ∈ DataW.weights Try.prog 53 d0, n ≤ reachBytes := fun n hn => by
    have := List.all_eq_true.1 hsz _ (DataW.weights_mem_each (j := 0) rfl rfl n hn)
    simpa using this
  obtain ⟨a0, w0⟩ := open_code (hval 0 53 v0 rfl rfl) h0 hz0
  have k1 := h1
  have lt1 : ∀ x ∈ p1, x.block < W.heap.size := by obtain ⟨m, hm⟩ := k1; exact DataW.trod_lt m _ _ _ hm
  obtain ⟨a1, rfl, rfl, rfl, w1⟩ := open_int Try.underlying3 (hval 1 3 v1 rfl rfl) h1
  have k2 := h2
  have lt2 : ∀ x ∈ p2, x.block < W.heap.size := by obtain ⟨m, hm⟩ := k2; exact DataW.trod_lt m _ _ _ hm
  obtain ⟨a2, rfl, rfl, rfl, w2⟩ := open_int Try.underlying3 (hval 2 3 v2 rfl rfl) h2
  clear hA0 hval0
  simp only [List.append_nil] at hW'
  refine (walk v0 a0 a1 a2 W w0 w1 w2).mono fun e W' ⟨he, bel⟩ => ?_
  subst he
  exact ⟨_, rfl, _, _, _, [], _, [], hW', trodAll_mk1 (shut_bool Try.underlying4 _), (trodAll_cons_mk (Below.trod laidOut (by kernel_rfl) (of_decide_eq_true (by kernel_rfl)) k0 bel lt0) (trodAll_cons_mk (Below.trod laidOut (by kernel_rfl) (of_decide_eq_true (by kernel_rfl)) k1 bel lt1) (trodAll_cons_mk (Below.trod laidOut (by kernel_rfl) (of_decide_eq_true (by kernel_rfl)) k2 bel lt2) trodAll_mk0))), rfl, Below.frame bel _, fun h => by cases h⟩

theorem over : Rows.imageTurnedRow.holds Try.pinned (OpenSpec.ofChange Rows.imageTurnedSpec) :=
  OpenClaim.holds_of_wide 13 Try.f13 rfl rfl rfl rfl rfl rfl rfl ⟨rfl, rfl, rfl, rfl, rfl⟩ rfl rfl rfl rfl rfl (by kernel_rfl) Try.func13 (by kernel_rfl)
    (of_decide_eq_true (by kernel_rfl)) (by unfold Func.isWrapper; rw [if_neg (of_decide_eq_false (by kernel_rfl))]; exact ⟨rfl, rfl⟩)
    (fun os started H enc _ => lifted os started H enc)

/-- THE STATEMENT. -/
theorem proved : Rows.ImageTurnedSaid := over
#print axioms proved

end Go.Proofs.Ytlfgofjmcegeiaa.imageTurned
