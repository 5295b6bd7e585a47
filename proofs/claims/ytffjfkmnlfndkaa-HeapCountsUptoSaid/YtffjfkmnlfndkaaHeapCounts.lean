/-
  Free cells and blocks make the room, what is let go is free, a second Collect lets go nothing, and without roots all is free. Condition: arguments that hold together at most 1048576 values and letters.
-/
import Derived.SizedLaws
import Derived.Deep.CondSized
import Derived.Test.YtffjfkmnlfndkaaRows
import Derived.Test.YtffjfkmnlfndkaaHeapT
import Derived.Test.YtffjfkmnlfndkaaRegionP
namespace Go.Proofs.Ytffjfkmnlfndkaa.heapCounts
open Go.ChangeShapes Go.WideShapes Go.ChangeAt Go.RowKit
open Go.ChangeMaps (open_string shut_string)
set_option linter.unusedVariables false

theorem own : ownKnob Try.prog.godebug = none := by kernel_rfl
theorem laidOut : laidOutB Try.prog = true := by kernel_rfl


set_option linter.unusedVariables false
theorem w64_small {x : Int} (h0 : 0 ≤ x) (h1 : x ≤ 1000000) : wrap64 x = x := by unfold wrap64; omega
set_option maxRecDepth 20000 in
set_option maxHeartbeats 4000000 in
/-- The law's own closure counts the cells of blocks. -/
theorem used_st {w0 u : World} {lo hi hq N bx : Nat} {H : HeapM} (h : HSt w0 lo hi hq N H u) (hN : N ≤ 400) (hb : u.cell? ⟨bx, 0, none⟩ = some (.pointer (some ⟨hq, 0, none⟩))) :
    Calls Try.prog 26 #[.pointer (some ⟨bx, 0, none⟩)] u fun e w' => e = .returned (.int .i64 (sumI H.sizes)) ∧ Kp u w' ∧ HSt w0 lo hi hq N H w' := by
  have HH := hid h
  obtain ⟨s0, s1, s2⟩ := h.sound.sum
  obtain ⟨L, hL⟩ : ∃ L, blocksM H.sizes H.shapes H.cells = L := ⟨_, rfl⟩
  have hlen : L.length ≤ N := by
    rw [← hL]
    have := blks_len H.sizes H.shapes H.cells H.sizes.length
    rw [show H.sizes.length = N from h.sound.lsz.trans h.sound.room_] at this
    unfold blocksM; rw [show H.sizes.length = N from h.sound.lsz.trans h.sound.room_]; exact this
  rw [hL] at s2
  have HL := hid hL
  obtain ⟨s, hs⟩ : ∃ s, sumI H.sizes = s := ⟨_, rfl⟩
  rw [hs] at s0 s1 s2 ⊢
  have HS2 := hid s2
  clear h hL hs s2
  go_enter Try.func26, Try.ntmps26
  go_wp2_with (go_at_call 19; go_must (refine (blocks_st HH.out).mono ?_); rintro e u2 ⟨⟨v, rfl, hbl⟩, hk2, hst2⟩; rw [HL.out] at hbl; obtain ⟨A, c, rfl⟩ := hbl.form; have HB := hid hbl.out.rd; have HK2 := hid hk2; have HST2 := hid hst2; clear hbl hk2 hst2)
  go_loopw [2, 8] (fun n i wr => ∃ k : Nat, k ≤ L.length ∧ i = .int .i64 k ∧ n = .int .i64 (usedM (L.take k)) ∧ Kp u2 wr) (fun _ i _ => L.length - lenI i)
  case atStart => exact ⟨0, by omega, rfl, rfl, Kp.refl _⟩
  case round =>
    obtain ⟨k, hk, rfl, rfl, hkp⟩ := hrel
    have HK := hid hkp
    clear hkp
    by_cases hlt : k < L.length
    · have i1 : (k : Int) < (L.length : Int) := by omega
      have j0 : (0 : Int) ≤ (k : Int) := by omega
      obtain ⟨b, hbk⟩ : ∃ b, L[k]? = some b := ⟨_, List.getElem?_eq_getElem hlt⟩
      obtain ⟨g, off, la, rfl, hg, c0, c1, c2, ho⟩ := rd_blk (HB.out.kp CeB.kp HK.out) hbk
      obtain ⟨A2, c3, rfl⟩ := ho.form
      have e1 : usedM (L.take (k + 1)) = usedM (L.take k) + (1 + (b.cells.length : Int)) := by
        rw [List.take_add_one, hbk, used_app]; simp [usedM]
      have e2 : usedM (L.take (k + 1)) + usedM (L.drop (k + 1)) = s := by rw [← used_app, List.take_append_drop]; exact HS2.out
      have e3 := used_nonneg (L.drop (k + 1))
      have e4 := used_nonneg (L.take k)
      rw [e1] at e2
      have E1 := hid e1
      obtain ⟨n, hn⟩ : ∃ n, usedM (L.take k) = n := ⟨_, rfl⟩
      obtain ⟨d, hd⟩ : ∃ d, usedM (L.drop (k + 1)) = d := ⟨_, rfl⟩
      rw [hn, hd] at e2
      rw [hd] at e3
      rw [hn] at e4 E1 ⊢
      have x2 : wrap64 (n + (1 + (b.cells.length : Int))) = n + (1 + (b.cells.length : Int)) := w64_small (by omega) (by omega)
      have x1 : wrap64 (1 + (b.cells.length : Int)) = 1 + (b.cells.length : Int) := w64_small (by omega) (by omega)
      have X1 := hid x1; have X2 := hid x2
      clear x1 x2
      clear e1 e2 hn hd hbk ho
      go_wp2
      go_roundw
      case rel => exact ⟨k + 1, by omega, rfl, by rw [E1.out, X1.out, X2.out], HK.out.trans ((Kp.refl _).alloc _)⟩
      case measure => simp only [lenI]; omega
    · obtain rfl : k = L.length := by omega
      have i1 : ¬ (L.length : Int) < (L.length : Int) := by omega
      have e : usedM (L.take L.length) = s := by rw [List.take_length]; exact HS2.out
      rw [e]
      clear e
      go_wp2
      go_ret
      exact ⟨rfl, HK2.out.trans HK.out, HST2.out.kp HK.out⟩
structure CSt (w0 : World) (lo hi hq N bx : Nat) (v : Value) (T0 : List Int) (H : HeapM) (u : World) : Prop where
  st : HSt w0 lo hi hq N H u
  box : u.cell? ⟨bx, 0, none⟩ = some (.pointer (some ⟨hq, 0, none⟩))
  lt : bx < u.heap.size
  ge : hi ≤ bx
  own : OwnI u hi v T0
theorem CSt.kp {w0 u u' : World} {lo hi hq N bx : Nat} {v : Value} {T0 : List Int} {H : HeapM} (h : CSt w0 lo hi hq N bx v T0 H u) (hk : Kp u u') : CSt w0 lo hi hq N bx v T0 H u' :=
  ⟨h.st.kp hk, cell_kp hk h.lt h.box, Nat.lt_of_lt_of_le h.lt hk.le, h.ge, ownsRow_keep h.own hk⟩
theorem CSt.hx {w0 u u' : World} {lo hi hq N bx : Nat} {v : Value} {T0 : List Int} {H H' : HeapM} (h : CSt w0 lo hi hq N bx v T0 H u) (hx : Hx lo hi u u') (hs : HSt w0 lo hi hq N H' u') : CSt w0 lo hi hq N bx v T0 H' u' := by
  refine ⟨hs, ?_, Nat.lt_of_lt_of_le h.lt hx.size, h.ge, h.own.hx hx⟩
  have := h.box
  unfold World.cell? at this ⊢
  dsimp only at this ⊢
  rw [hx.high bx h.ge h.lt]; exact this
set_option maxRecDepth 20000 in
set_option maxHeartbeats 4000000 in
theorem walk (a0 : Int) (v1 : Value) (a1 : List MakeM) (v2 : Value) (a2 : List Int) (w : World) (w0 : (Lit.int .i64 a0).wf = true) (w1 : RdMakesB w v1 a1) (w2 : RdIntsU w v2 a2) :
    Calls Try.prog 8 #[.int .i64 a0, v1, v2] w fun e w' => e = .returned (.bool true) ∧ Kp w w' := by
  obtain ⟨hlm, _⟩ := id w1
  have W1 := hid w1; have W2 := hid w2
  have HOK : Hid (MadeOk (spotV a0 400).toNat (madeM a0 a1)) := hid (made_ok a0 a1 60)
  have HAT : Hid ((madeM a0 a1).2.length ≤ 60) := hid (madeN_len a0 a1 60)
  obtain ⟨z0, z1⟩ := spotV_bd a0 400 (by omega)
  obtain ⟨N, hN⟩ : ∃ N : Nat, spotV a0 400 = N := ⟨(spotV a0 400).toNat, by omega⟩
  rw [hN] at z0 z1
  have HN := hid hN
  obtain ⟨S, hS⟩ : ∃ S, madeM a0 a1 = S := ⟨_, rfl⟩
  rw [hS] at HOK HAT
  have HS := hid hS
  clear hS hN hlm w1 w2
  have HRO : Hid (∀ u2 w', RdInts u2 w' S.2 → True) := hid (fun _ _ _ => trivial)
  have HAI : Hid (∀ (u : World) (hi : Nat) (v : Value), OwnI u hi v S.2 → RdInts u v S.2) := hid fun u hi v h => OwnI.rd h (by have := HAT.out; omega) (fun p hp => okI_isB (HOK.out.at_ p hp) (by rw [HOK.out.room_]; have := HN.out; omega))
  obtain ⟨R, hR⟩ : ∃ R, chosenM S.2 a2 = R := ⟨_, rfl⟩
  have hRl : R.length ≤ 4000000 := by have := chosenM_len S.2 a2; have h2 := W2.out.2; rw [hR] at this; omega
  have HR := hid hR
  have HRL := hid hRl
  clear hR hRl
  obtain ⟨H0, T0⟩ := S
  have hok0 : MadeOk N (H0, T0) := by have := HOK.out; rw [HN.out] at this; exact this
  have hok0' : MadeOk N (H0, []) := ⟨hok0.sound, hok0.lsz, hok0.lsh, hok0.room_, fun p hp => by simp at hp⟩
  have hN4 : N ≤ 400 := by omega
  obtain ⟨C1, hC1⟩ : ∃ C, collectH H0 R = C := ⟨_, rfl⟩
  obtain ⟨C2, hC2⟩ : ∃ C, collectH C1 R = C := ⟨_, rfl⟩
  obtain ⟨C3, hC3⟩ : ∃ C, collectH C2 [] = C := ⟨_, rfl⟩
  have hok1 : MadeOk N (C1, []) := by rw [← hC1]; exact hok0.collect R
  have hok2 : MadeOk N (C2, []) := by rw [← hC2]; exact hok1.collect R
  have hok3 : MadeOk N (C3, []) := by rw [← hC3]; exact hok2.collect []
  obtain ⟨s0, hs0⟩ : ∃ s, sumI H0.sizes = s := ⟨_, rfl⟩
  obtain ⟨s1, hs1⟩ : ∃ s, sumI C1.sizes = s := ⟨_, rfl⟩
  obtain ⟨n, hn⟩ : ∃ n, collectN H0 R = n := ⟨_, rfl⟩
  have e1 : s1 + (n : Int) = s0 := by rw [← hs1, ← hC1, ← hn, ← hs0]; exact collect_sum hok0 R
  have e2 : collectN C1 R = 0 := by rw [← hC1]; exact collect_twice hok0 R
  have ez : ∀ q, sz C3.sizes q = 0 := fun q => by rw [← hC3]; exact collect_none hok2 q
  have e3 : sumI C3.sizes = 0 := by have := sum_zero ez C3.sizes.length (Nat.le_refl _); rw [List.take_length] at this; exact this
  have e4 : blocksM C3.sizes C3.shapes C3.cells = [] := blocks_none ez
  have b0 := hok0.sum
  rw [hs0] at b0
  obtain ⟨b0, b1, _⟩ := b0
  have b2 := hok1.sum.1
  rw [hs1] at b2
  obtain ⟨f0, hf0⟩ : ∃ f, (N : Int) - s0 = f := ⟨_, rfl⟩
  have F0 : Hid ((N : Int) - sumI H0.sizes = f0) := hid (by rw [hs0]; exact hf0)
  have F1 : Hid ((N : Int) - sumI C1.sizes = f0 + (n : Int)) := hid (by rw [hs1]; omega)
  have F3 : Hid ((N : Int) - sumI C3.sizes = (N : Int)) := hid (by rw [e3]; omega)
  have m0 : f0 + s0 = (N : Int) := by omega
  have m1 : f0 + (n : Int) + s1 = (N : Int) := by omega
  have hN4' : N ≤ 4000 := by omega
  have HN4 := hid hN4; have HN4' := hid hN4'
  have G0 := hid hok0'; have HC1 := hid hC1; have HC2 := hid hC2; have HC3 := hid hC3; have HS0 := hid hs0; have HS1 := hid hs1; have HNn := hid hn; have E2 := hid e2; have E3 := hid e3; have E4 := hid e4
  clear hf0 e1 hok0 hok0' hok1 hok2 hok3 hC1 hC2 hC3 hs0 hs1 hn e2 e3 e4 ez
  go_enter Try.func8, Try.ntmps8
  go_wp2_with first | (go_at_call 15; go_must (refine (made_any w a0 v1 a1 W1.out).mono ?_); rintro e u1 ⟨⟨hq, hi, v, rfl, hh, hl, hown⟩, hk⟩; rw [HS.out] at hh hown; have HC : Hid (CSt w w.heap.size hi hq N u1.heap.size v T0 H0 (u1.alloc (.cells #[.pointer (some ⟨hq, 0, none⟩)] 25))) := hid ⟨HSt.kp ⟨hh, G0.out, hk, hl⟩ ((Kp.refl _).alloc _), by simp, by simp, hl, ownsRow_keep hown ((Kp.refl _).alloc _)⟩; clear hh hl hown hk) | (go_at_call 27; go_must (refine (free_st HC.out.st HN4'.out).mono ?_); rintro e w' ⟨rfl, rfl⟩; rw [F0.out]) | (go_at_call 26; go_must (refine (used_st HC.out.st HN4.out HC.out.box).mono ?_); rintro e u3 ⟨rfl, hk3, _⟩; rw [HS0.out]; have HC := hid (HC.out.kp hk3); clear hk3) | (go_at_call 17; go_must (refine (spot_any _ _ _ (by decide) (by decide)).mono ?_); rintro e w4 ⟨rfl, rfl⟩; rw [HN.out]) | (go_at_call 22; go_must (refine (chosen_any _ _ _ T0 a2 (HAI.out _ _ _ HC.out.own) ⟨W2.out.1.kp HC.out.st.low, W2.out.2⟩).mono ?_); rintro e u2 ⟨⟨rv, rfl, hro⟩, hk2⟩; rw [HR.out] at hro; obtain ⟨AR, cR, rfl⟩ := hro.form; have HRR := hid (hro.base HC.out.st.le); have HC := hid (HC.out.kp hk2); clear hro hk2)
  have hb16 : 0 + R.length ≤ maxLen := by have := HRL.out; unfold maxLen; omega
  have hb17 : (0 + R.length) * 16 ≤ 140737488355328 := by have := HRL.out; omega
  have B16 := hid hb16; have B17 := hid hb17
  clear hb16 hb17
  refine wp_region_phase [3] [(0, 0), (0, 0), (0, 0), (0, 0), (1, 1)] (fun a b => w.heap.size ≤ a.heap.size → Hx w.heap.size hi a b) [[], [], [1], [0, 2], [3]]
    (fun (p : Nat) (x : Nat → Value) (u : World) => match p with | 0 => Kp u2 u | _ => CSt w w.heap.size hi hq N u1.heap.size v T0 C1 u ∧ OCells u hi (.slice AR R.length cR) R)
    [fun (y : Value) (u : World) => y = (.pointer (some ⟨hq, 0, none⟩) : Value),
     fun (y : Value) (u : World) => y = (.slice AR R.length cR : Value),
     fun (y : Value) (u : World) => OCells u hi y R ∧ w.heap.size ≤ u.heap.size,
     fun (y : Value) (u : World) => y = (.int .i64 n : Value),
     fun (y : Value) (u : World) => y = (.int .i64 n : Value)]
    (by kernel_rfl) (by kernel_rfl) (by kernel_rfl) (by kernel_rfl) (by kernel_rfl) (by kernel_rfl) (fun a b hk h => Hx.of_kp hk h) ((Kp.refl _).drew) ?hKb ?hXb ⟨fun _ _ _ _ h => h, fun _ _ _ _ h => h, fun _ _ _ hk h => ⟨OCells.hx h.1 (hk h.2), Nat.le_trans h.2 (hk h.2).size⟩, fun _ _ _ _ h => h, fun _ _ _ _ h => h, trivial⟩ ⟨?sb0, ?sb1, ?sb2, ?sb3, ?sb4, trivial⟩ ?hEb
  case hKb =>
    intro p x w w' hk h
    rcases p with _ | p
    · exact h.trans hk
    · exact ⟨h.1.kp hk, h.2.kp hk⟩
  case hXb =>
    intro p x i v w hi h
    have e0 : upd x i v 3 = x 3 := if_neg (fun hh => hi (by rw [← hh]; decide))
    rcases p with _ | p
    · first | exact h | (simp only [e0]; exact h)
    · first | exact h | (simp only [e0]; exact h)
  case sb0 =>
    refine OpStepQ.off 0 0 (by kernel_rfl) (by kernel_rfl) ?_
    intro x u p hp hg hd K hK
    obtain rfl : p = 0 := by omega
    change Kp u2 u at hg
    clear hd
    have q0 := (HC.out.kp hg).box
    refine ⟨?_⟩
    simp only [putsFrom, Act.put, List.setIfInBounds_toArray, List.set_cons_zero, List.set_cons_succ, Nat.reduceAdd] at hK ⊢
    go_simp
    exact hK.out _ _ (Kp.refl _) rfl
  case sb1 =>
    refine OpStepQ.off 0 0 (by kernel_rfl) (by kernel_rfl) ?_
    intro x u p hp hg hd K hK
    obtain rfl : p = 0 := by omega
    change Kp u2 u at hg
    clear hd
    refine ⟨?_⟩
    simp only [putsFrom, Act.put, List.setIfInBounds_toArray, List.set_cons_zero, List.set_cons_succ, Nat.reduceAdd] at hK ⊢
    go_simp
    exact hK.out _ _ (Kp.refl _) rfl
  case sb2 =>
    refine OpStepQ.off 0 0 (by kernel_rfl) (by kernel_rfl) ?_
    intro x u p hp hg hd K hK
    obtain rfl : p = 0 := by omega
    change Kp u2 u at hg
    have d1 : (x 1) = .slice AR R.length cR := And.left hd
    clear hd
    obtain ⟨news, hch, _, hsrc⟩ := RdL.src ((HRR.out.kp hg).rd)
    refine ⟨?_⟩
    simp only [putsFrom, Act.put, List.setIfInBounds_toArray, List.set_cons_zero, List.set_cons_succ, Nat.reduceAdd, d1] at hK ⊢
    rw [if_pos (by simp [Region.wanted])]
    refine wp_app elCell (.const (.slice none 0 0)) (.tmp 37) (by rfl) (World.ownsRow_nil u u.heap.size 24 2) (by rfl) news AR R.length cR (by rfl) hch.len hsrc (Chunk.one_ (ceC_one u) hch) B16.out B17.out (Nat.le_refl _) ?_
    intro v' w' G1 _ _ G4
    exact hK.out v' w' G4 ⟨OCells.base ⟨_, by simpa using G1, Chunk.mono (w := u) (w' := w') (fun _ _ h => h) hch⟩ (HC.out.kp hg).st.le, Nat.le_trans (Nat.le_trans (HC.out.kp hg).st.heap.hxlo (HC.out.kp hg).st.le) G4.size⟩
  case sb3 =>
    refine OpStepQ.on 0 (by kernel_rfl) (by kernel_rfl) ?_
    intro x u hg hd K hK
    change Kp u2 u at hg
    have d0 : (x 0) = .pointer (some ⟨hq, 0, none⟩) := And.left hd
    have d2 : OCells u hi (x 2) R ∧ w.heap.size ≤ u.heap.size := And.left (And.right hd)
    clear hd
    refine ⟨?_⟩
    simp only [putsFrom, Act.put, List.setIfInBounds_toArray, List.set_cons_zero, List.set_cons_succ, Nat.reduceAdd, d0] at hK ⊢
    go_simp
    go_at_call 23
    have hc := (collect_st (HC.out.kp hg).st (OCells.rd d2.1) HRL.out)
    refine hc.mono ?_
    clear hc
    rintro e u' ⟨rfl, hx, hst⟩
    dsimp only
    exact hK.out _ _ (fun _ => hx) ⟨(HC.out.kp hg).hx hx (by rw [← HC1.out]; exact hst), (HRR.out.kp hg).hx hx⟩ (by rw [HNn.out]; rfl)
  case sb4 =>
    refine OpStepQ.off 1 1 (by kernel_rfl) (by kernel_rfl) ?_
    intro x u p hp hg hd K hK
    obtain rfl : p = 1 := by omega
    change CSt w w.heap.size hi hq N u1.heap.size v T0 C1 u ∧ OCells u hi (.slice AR R.length cR) R at hg
    have d3 : (x 3) = .int .i64 n := And.left hd
    clear hd
    refine ⟨?_⟩
    simp only [putsFrom, Act.put, List.setIfInBounds_toArray, List.set_cons_zero, List.set_cons_succ, Nat.reduceAdd, d3] at hK ⊢
    go_simp
    exact hK.out _ _ (Kp.refl _) rfl
  intro x u hg he
  have d0 : (x 0) = .pointer (some ⟨hq, 0, none⟩) := And.left he
  have d1 : (x 1) = .slice AR R.length cR := And.left (And.right he)
  have d2 : OCells u hi (x 2) R ∧ w.heap.size ≤ u.heap.size := And.left (And.right (And.right he))
  have d3 : (x 3) = .int .i64 n := And.left (And.right (And.right (And.right he)))
  have d4 : (x 4) = .int .i64 n := And.left (And.right (And.right (And.right (And.right he))))
  clear he
  change CSt w w.heap.size hi hq N u1.heap.size v T0 C1 u ∧ OCells u hi (.slice AR R.length cR) R at hg
  refine ⟨?_⟩
  simp only [putsFrom, Act.put, List.setIfInBounds_toArray, List.set_cons_zero, List.set_cons_succ, Nat.reduceAdd, d0, d1, d3, d4]
  clear d0 d1 d3 d4
  have HC := hid hg.1; have HRR := hid hg.2
  have hbx := HC.out.box
  have E2' := E2.out; have E4' := E4.out
  have L0 := hid (show ([] : List CellM).length ≤ 4000000 by simp)
  have n0 : 0 ≤ f0 := by omega
  have n1 : f0 + (n : Int) ≤ 400 := by omega
  have x1 : wrap64 (f0 + (n : Int)) = f0 + (n : Int) := w64_small (by omega) (by omega)
  have X1 := hid x1
  clear hg E2' E4' x1
  go_wp2_with first | (go_at_call 27; go_must (refine (free_st HC.out.st HN4'.out).mono ?_); rintro e w' ⟨rfl, rfl⟩; first | rw [F1.out] | rw [F3.out]) | (go_at_call 26; go_must (refine (used_st HC.out.st HN4.out HC.out.box).mono ?_); rintro e u3 ⟨rfl, hk3, _⟩; rw [HS1.out]; have HRR := hid (HRR.out.kp hk3); have HC := hid (HC.out.kp hk3); have hbx := HC.out.box; clear hk3) | (go_at_call 17; go_must (refine (spot_any _ _ _ (by decide) (by decide)).mono ?_); rintro e w4 ⟨rfl, rfl⟩; rw [HN.out]) | (go_at_call 23; go_must (first | (refine (collect_st HC.out.st HRR.out.rd HRL.out).mono ?_; rintro e w5 ⟨rfl, hx5, hst5⟩; rw [HC2.out] at hst5; rw [E2.out]; have HC := hid (HC.out.hx hx5 hst5); have hbx := HC.out.box; clear HRR hx5 hst5) | (refine (collect_st HC.out.st (OCells.rd (OwnL.nil CeC 2 24 _ 0)) L0.out).mono ?_; rintro e w6 ⟨rfl, hx6, hst6⟩; rw [HC3.out] at hst6; have HC := hid (HC.out.hx hx6 hst6); have hbx := HC.out.box; clear hx6 hst6))) | (go_at_call 19; go_must (refine (blocks_st HC.out.st).mono ?_); rintro e u7 ⟨⟨bv, rfl, hb⟩, hk7, _⟩; rw [E4.out] at hb; obtain ⟨Ab, cb, rfl⟩ := hb.form; have HC := hid (HC.out.kp hk7); have hbx := HC.out.box; clear hk7 hb)
  go_ret
  exact ⟨rfl, HC.out.st.low⟩

/-! ### The row's step (the guide's frame, written by program) -/
set_option maxRecDepth 100000 in
theorem lifted (os : Os) (started : os.Started) (H : Type) (enc : TypeId × Value → H) (F : Stop.Interp) :
    ReturnsInHanded {} Try.checked os 8 .any ((Rows.OpenSpec.upto Rows.heapCountsSpec).pre6 enc Try.prog Try.f8 Rows.heapCountsUptoRow.domain false) (((Rows.OpenSpec.upto Rows.heapCountsSpec).at F).post enc Try.prog Try.f8 false true false false) := by
  refine returnsInHanded_of_cond_sized (C := Try.checked) (s := Rows.OpenSpec.upto Rows.heapCountsSpec) (k := Rows.uptoSmall) rfl own started (by kernel_rfl) Try.func8
    (OpenSpec.witness (enc := enc) (C := Try.checked) (s := Rows.OpenSpec.upto Rows.heapCountsSpec) (k := Rows.uptoSmall) rfl false ⟨#[], #[.int .i64 0, .slice none 0 0, .slice none 0 0], []⟩ 8 (by kernel_rfl) (by kernel_rfl) (by kernel_rfl)
      (x := ([.lit (.int .i64 0), .nil, .nil], [], [])) (by kernel_rfl) rfl (by kernel_rfl)) ?_
  intro W base args ds gs before hval0 hW _ hk0 hsz0 _
  have hsz : (DataW.weightsEach Try.prog (Try.f8.params.toList ++ (Rows.OpenSpec.upto Rows.heapCountsSpec).bare.plain.varTypes Try.prog) (ds ++ gs)).all (· ≤ reachBytes) = true := hsz0
  clear hsz0
  have hval : ∀ (j : Nat) t v, Try.f8.params[j]? = some t → args[j]? = some v → Value.okWide Try.prog W .any base t v := hval0
  have hW' := hW
  obtain ⟨p, q, hA0, hV, rfl, hfz, hnd⟩ := hW
  have hA : DataW.TrodAll enc Try.prog W 0 (fun _ => true) true Try.f8.params.toList args.toList ds p := hA0
  rw [Try.params8] at hA hval hsz
  obtain ⟨v0, vs0, d0, ds0, p0, q0, hargs, rfl, rfl, h0, r0⟩ := trodAll_cons hA
  obtain ⟨v1, vs1, d1, ds1, p1, q1, rfl, rfl, rfl, h1, r1⟩ := trodAll_cons r0
  obtain ⟨v2, vs2, d2, ds2, p2, q2, rfl, rfl, rfl, h2, r2⟩ := trodAll_cons r1
  obtain ⟨rfl, rfl, rfl⟩ := trodAll_nil r2
  obtain rfl : args = #[v0, v1, v2] := by cases args; simp_all
  obtain ⟨rfl, rfl⟩ := trodVars_none hV
  have hbk : Rows.uptoBulkAll [d0, d1, d2] ≤ 1048576 := of_decide_eq_true hk0
  simp only [Rows.uptoBulkAll] at hbk
  have hb0 : Rows.uptoBulk d0 ≤ 1048576 := by omega
  have hb1 : Rows.uptoBulk d1 ≤ 1048576 := by omega
  have hb2 : Rows.uptoBulk d2 ≤ 1048576 := by omega
  clear hk0 hbk
  have k0 := h0
  have lt0 : ∀ x ∈ p0, x.block < W.heap.size := by obtain ⟨m, hm⟩ := k0; exact DataW.trod_lt m _ _ _ hm
  obtain ⟨a0, rfl, rfl, rfl, w0⟩ := open_int Try.underlying3 (hval 0 3 v0 rfl rfl) h0
  have k1 := h1
  have lt1 : ∀ x ∈ p1, x.block < W.heap.size := by obtain ⟨m, hm⟩ := k1; exact DataW.trod_lt m _ _ _ hm
  have hz1 : ∀ n ∈ DataW.weights Try.prog 22 d1, n ≤ reachBytes := fun n hn => by
    have := List.all_eq_true.1 hsz _ (DataW.weights_mem_each (j := 1) rfl rfl n hn)
    simpa using this
  obtain ⟨a1, w1⟩ := open_makes (hval 1 22 v1 rfl rfl) h1 hz1
  have k2 := h2
  have lt2 : ∀ x ∈ p2, x.block < W.heap.size := by obtain ⟨m, hm⟩ := k2; exact DataW.trod_lt m _ _ _ hm
  have hz2 : ∀ n ∈ DataW.weights Try.prog 26 d2, n ≤ reachBytes := fun n hn => by
    have := List.all_eq_true.1 hsz _ (DataW.weights_mem_each (j := 2) rfl rfl n hn)
    simpa using this
  obtain ⟨a2, w2⟩ := open_intsU (hval 2 26 v2 rfl rfl) h2 hz2 hb2
  clear hA0 hval0
  simp only [List.append_nil] at hW'
  refine (walk a0 v1 a1 v2 a2 W w0 w1 w2).mono fun e W' ⟨he, bel⟩ => ?_
  subst he
  exact ⟨_, rfl, _, _, _, [], _, [], hW', trodAll_mk1 (shut_bool Try.underlying4 _), (trodAll_cons_mk (Below.trod laidOut (by kernel_rfl) (of_decide_eq_true (by kernel_rfl)) k0 bel lt0) (trodAll_cons_mk (Below.trod laidOut (by kernel_rfl) (of_decide_eq_true (by kernel_rfl)) k1 bel lt1) (trodAll_cons_mk (Below.trod laidOut (by kernel_rfl) (of_decide_eq_true (by kernel_rfl)) k2 bel lt2) trodAll_mk0))), rfl, Below.frame bel _, fun h => by cases h⟩

theorem over : Rows.heapCountsUptoRow.holds Try.pinned (Rows.OpenSpec.upto Rows.heapCountsSpec) :=
  OpenClaim.holds_of_cond 8 Try.f8 rfl rfl rfl rfl rfl rfl rfl ⟨rfl, rfl, rfl, rfl, rfl⟩ rfl rfl rfl rfl rfl (by kernel_rfl) Try.func8 (by kernel_rfl)
    (of_decide_eq_true (by kernel_rfl)) (by unfold Func.isWrapper; rw [if_neg (of_decide_eq_false (by kernel_rfl))]; exact ⟨rfl, rfl⟩)
    (fun os started H enc _ F => lifted os started H enc F)

/-- THE STATEMENT. -/
theorem proved : Rows.HeapCountsUptoSaid := over
#print axioms proved

end Go.Proofs.Ytffjfkmnlfndkaa.heapCounts
