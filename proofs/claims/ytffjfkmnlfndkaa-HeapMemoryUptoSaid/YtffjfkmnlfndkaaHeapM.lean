/-
  The laws' made heap: the walk. Condition: none but the reading of the arguments.
-/
import Derived.Test.YtffjfkmnlfndkaaHeapP
namespace Go.Proofs.Ytffjfkmnlfndkaa
open Go.RowKit Go.Maps
set_option linter.unusedVariables false

theorem OwnI.hx {lo hi : Nat} {w w' : World} {v : Value} {xs : List Int} (h : OwnI w hi v xs) (hk : Hx lo hi w w') : OwnI w' hi v xs := ownsRow_hx h hk
theorem HeapIs.hxlo {w : World} {lo hi hq : Nat} {H : HeapM} (h : HeapIs w lo hi hq H) : lo ≤ hi := by obtain ⟨gc, gs, gh, _, r1, _⟩ := h; omega
theorem e_of_ne {H T : HeapM} {t n p e : Int} (hT : allocM H t n = T) (h : allocC H t n = (p, e)) (he : e ≠ 0) : T = H := by rw [← hT]; unfold allocM; rw [h, if_neg he]
theorem okI_isB {H : HeapM} {p : Int} (h : isB H p = true) (hl : H.cells.length ≤ 4000) : okI p := by
  obtain ⟨k, rfl, hk⟩ := isB_neg h
  unfold okI; omega
def MadePost (room : Int) (l : List MakeM) (w : World) (e : Ending) (w' : World) : Prop := (∃ hq hi v, e = .returned (.tuple #[.pointer (some ⟨hq, 0, none⟩), v, .bool true]) ∧ HeapIs w' w.heap.size hi hq (madeM room l).1 ∧ hi ≤ w'.heap.size ∧ OwnI w' hi v (madeM room l).2) ∧ Kp w w'
set_option maxRecDepth 20000 in
set_option maxHeartbeats 4000000 in
theorem made_any (w : World) (room : Int) (lv : Value) (l : List MakeM) (h : RdMakesB w lv l) : Calls Try.prog 15 #[.int .i64 room, lv] w (MadePost room l w) := by
  obtain ⟨hr, hbl⟩ := h
  obtain ⟨s0, s1⟩ := spotV_bd room 400 (by omega)
  obtain ⟨N, hN⟩ : ∃ N, (spotV room 400).toNat = N := ⟨_, rfl⟩
  have eN : spotV room 400 = (N : Int) := by omega
  have hN4 : N ≤ 400 := by omega
  obtain ⟨A, c, rfl, hc⟩ := RdL.form hr
  have HR := hid hr; have HEN := hid eN; have HN := hid hN
  clear hr eN hN s0 s1
  go_enter Try.func15, Try.ntmps15
  go_wp2_with first | (go_at_call 17; go_must (refine (spot_any room 400 _ (by omega) (by omega)).mono ?_); rintro e w1 ⟨rfl, rfl⟩; rw [HEN.out]) | (go_at_call 40; go_must (refine (new_any _ N (by omega)).mono ?_); rintro e w1 ⟨⟨hq, rfl, hh⟩, hk1⟩)
  have hlo := hh.hxlo
  obtain ⟨hi, hhi⟩ : ∃ hi, w1.heap.size = hi := ⟨_, rfl⟩
  rw [hhi] at hh hlo
  have HH := hid hh; have HK1 := hid hk1; have HHI := hid hhi; have HLO := hid hlo
  clear hh hk1 hhi hlo
  go_loopw [9, 10] (fun v i wr => ∃ k : Nat, k ≤ l.length ∧ k ≤ 60 ∧ i = .int .i64 k ∧ HeapIs wr w.heap.size hi hq (madeN room l k).1 ∧ OwnI wr hi v (madeN room l k).2 ∧ Below w.heap.size w1 wr ∧ hi ≤ wr.heap.size) (fun _ i _ => 60 - lenI i)
  case atStart => exact ⟨0, by omega, by omega, rfl, by unfold madeN; rw [HN.out]; exact HH.out, OwnI.nil _ _, Below.refl _ _, by rw [HHI.out]; omega⟩
  case round =>
    obtain ⟨k, hkl, hk60, rfl, hhp, hown, hx, hwl⟩ := hrel
    have hok := made_ok room l k
    have hln := madeN_len room l k
    obtain ⟨S, hS⟩ : ∃ S, madeN room l k = S := ⟨_, rfl⟩
    rw [hS] at hhp hown hok hln
    obtain ⟨A9, c9, rfl⟩ := own_form hown
    have hkw : Kp w wr := Below.trans HK1.out hx
    have HP := hid hhp; have HO := hid hown; have HX := hid hx; have HOK := hid hok; have HS := hid hS; have HKW := hid hkw
    have hll : w.heap.size ≤ wr.heap.size := hkw.le
    clear hhp hown hx hok hS hkw
    by_cases hlt : k < l.length
    · by_cases h60 : k < 60
      · have i1 : (k : Int) < (l.length : Int) := by omega
        have i2 : (k : Int) < 60 := by omega
        obtain ⟨m, hm⟩ : ∃ m, l[k]? = some m := ⟨_, List.getElem?_eq_getElem hlt⟩
        obtain ⟨b, off, rfl, hb, lc, g0, g1, g2, o0, o1, hcs, hcl⟩ := at_make (HR.out.kp CeMake.kp HKW.out) hm
        have HM := hid hm
        clear hm
        have hb' : b < wr.heap.size := hb
        have j0 : (0 : Int) ≤ (k : Int) := by omega
        obtain ⟨p0, p1⟩ := spotV_bd (wrap64 (m.shape - 1)) 4 (by omega)
        obtain ⟨n0, n1⟩ := spotV_bd m.n 12 (by omega)
        obtain ⟨sh, hsh⟩ : ∃ sh, spotV (wrap64 (m.shape - 1)) 4 = sh := ⟨_, rfl⟩
        obtain ⟨n, hn⟩ : ∃ n, spotV m.n 12 = n := ⟨_, rfl⟩
        rw [hsh] at p0 p1
        rw [hn] at n0 n1
        have HSH := hid hsh; have HNN := hid hn
        have hmk : madeStep S m = if (allocC S.1 (1 + sh) n).2 ≠ 0 then S else (putM S.2 (allocC S.1 (1 + sh) n).1 m.cells m.cells.length (allocM S.1 (1 + sh) n), S.2 ++ [(allocC S.1 (1 + sh) n).1]) := by
          unfold madeStep; rw [hsh, hn]
        have HMK := hid hmk
        clear hsh hn hmk
        obtain ⟨T, hT⟩ : ∃ T, allocM S.1 (1 + sh) n = T := ⟨_, rfl⟩
        obtain ⟨⟨p, e⟩, hpe⟩ : ∃ pe : Int × Int, allocC S.1 (1 + sh) n = pe := ⟨_, rfl⟩
        have HT := hid hT; have HPE := hid hpe
        clear hT hpe
        go_wp2
        refine wp_region_phase [15] [(0, 0), (0, 0), (0, 0), (0, 0), (0, 0), (0, 0), (0, 0), (0, 0), (0, 0), (0, 0), (0, 0), (0, 0), (0, 0), (0, 0), (0, 0), (0, 0), (1, 1), (1, 1), (1, 1), (1, 1), (1, 1)] (fun _ _ => True) [[], [], [], [1, 2], [3], [4], [5], [6], [7], [], [], [9, 10], [11], [12], [13], [0, 8, 14], [15], [16], [16], [17], [18]]
          (fun (p : Nat) (x : Nat → Value) (u : World) => match p with | 0 => Kp wr u | _ => HeapIs u w.heap.size hi hq T ∧ Hx w.heap.size hi wr u)
          [fun (y : Value) (u : World) => y = (.pointer (some ⟨hq, 0, none⟩) : Value),
           fun (y : Value) (u : World) => y = (.slice (some ⟨b, off, none⟩) l.length c : Value),
           fun (y : Value) (u : World) => y = (.int .i64 k : Value),
           fun (y : Value) (u : World) => y = (.pointer (some ⟨b, off + k * 3, none⟩) : Value),
           fun (y : Value) (u : World) => y = (.pointer (some ⟨b, off + k * 3, none⟩) : Value),
           fun (y : Value) (u : World) => y = (.int .i64 m.shape : Value),
           fun (y : Value) (u : World) => y = (.int .i64 (wrap64 (m.shape - 1)) : Value),
           fun (y : Value) (u : World) => y = (.int .i64 sh : Value),
           fun (y : Value) (u : World) => y = (.int .i64 (1 + sh) : Value),
           fun (y : Value) (u : World) => y = (.slice (some ⟨b, off, none⟩) l.length c : Value),
           fun (y : Value) (u : World) => y = (.int .i64 k : Value),
           fun (y : Value) (u : World) => y = (.pointer (some ⟨b, off + k * 3, none⟩) : Value),
           fun (y : Value) (u : World) => y = (.pointer (some ⟨b, off + k * 3 + 1, none⟩) : Value),
           fun (y : Value) (u : World) => y = (.int .i64 m.n : Value),
           fun (y : Value) (u : World) => y = (.int .i64 n : Value),
           fun (y : Value) (u : World) => y = (.tuple #[.int .i64 p, .int .i64 e] : Value),
           fun (y : Value) (u : World) => y = (.tuple #[.int .i64 p, .int .i64 e] : Value),
           fun (y : Value) (u : World) => y = (.int .i64 p : Value),
           fun (y : Value) (u : World) => y = (.int .i64 e : Value),
           fun (y : Value) (u : World) => y = (.int .i64 p : Value),
           fun (y : Value) (u : World) => y = (.int .i64 e : Value)]
          (by kernel_rfl) (by kernel_rfl) (by kernel_rfl) (by kernel_rfl) (by kernel_rfl) (by kernel_rfl) (fun _ _ _ => trivial) ((Kp.refl _).drew) ?hKb ?hXb ⟨fun _ _ _ _ h => h, fun _ _ _ _ h => h, fun _ _ _ _ h => h, fun _ _ _ _ h => h, fun _ _ _ _ h => h, fun _ _ _ _ h => h, fun _ _ _ _ h => h, fun _ _ _ _ h => h, fun _ _ _ _ h => h, fun _ _ _ _ h => h, fun _ _ _ _ h => h, fun _ _ _ _ h => h, fun _ _ _ _ h => h, fun _ _ _ _ h => h, fun _ _ _ _ h => h, fun _ _ _ _ h => h, fun _ _ _ _ h => h, fun _ _ _ _ h => h, fun _ _ _ _ h => h, fun _ _ _ _ h => h, fun _ _ _ _ h => h, trivial⟩ ⟨?sb0, ?sb1, ?sb2, ?sb3, ?sb4, ?sb5, ?sb6, ?sb7, ?sb8, ?sb9, ?sb10, ?sb11, ?sb12, ?sb13, ?sb14, ?sb15, ?sb16, ?sb17, ?sb18, ?sb19, ?sb20, trivial⟩ ?hEb
        case hKb =>
          intro p x w w' hk h
          rcases p with _ | p
          · exact h.trans hk
          · exact ⟨h.1.kp hk, h.2.trans (Hx.of_kp hk (Nat.le_trans hll h.2.size))⟩
        case hXb =>
          intro p x i v w hi h
          have e0 : upd x i v 15 = x 15 := if_neg (fun hh => hi (by rw [← hh]; decide))
          rcases p with _ | p
          · first | exact h | (simp only [e0]; exact h)
          · first | exact h | (simp only [e0]; exact h)
        case sb0 =>
          refine OpStepQ.off 0 0 (by kernel_rfl) (by kernel_rfl) ?_
          intro x u p hp hg hd K hK
          obtain rfl : p = 0 := by omega
          change Kp wr u at hg
          clear hd
          refine ⟨?_⟩
          simp only [putsFrom, Act.put, List.setIfInBounds_toArray, List.set_cons_zero, List.set_cons_succ, Nat.reduceAdd] at hK ⊢
          go_simp
          exact hK.out _ _ (Kp.refl _) rfl
        case sb1 =>
          refine OpStepQ.off 0 0 (by kernel_rfl) (by kernel_rfl) ?_
          intro x u p hp hg hd K hK
          obtain rfl : p = 0 := by omega
          change Kp wr u at hg
          clear hd
          refine ⟨?_⟩
          simp only [putsFrom, Act.put, List.setIfInBounds_toArray, List.set_cons_zero, List.set_cons_succ, Nat.reduceAdd] at hK ⊢
          go_simp
          exact hK.out _ _ (Kp.refl _) rfl
        case sb2 =>
          refine OpStepQ.off 0 0 (by kernel_rfl) (by kernel_rfl) ?_
          intro x u p hp hg hd K hK
          obtain rfl : p = 0 := by omega
          change Kp wr u at hg
          clear hd
          refine ⟨?_⟩
          simp only [putsFrom, Act.put, List.setIfInBounds_toArray, List.set_cons_zero, List.set_cons_succ, Nat.reduceAdd] at hK ⊢
          go_simp
          exact hK.out _ _ (Kp.refl _) rfl
        case sb3 =>
          refine OpStepQ.off 0 0 (by kernel_rfl) (by kernel_rfl) ?_
          intro x u p hp hg hd K hK
          obtain rfl : p = 0 := by omega
          change Kp wr u at hg
          have d1 : (x 1) = .slice (some ⟨b, off, none⟩) l.length c := And.left hd
          have d2 : (x 2) = .int .i64 k := And.left (And.right hd)
          clear hd
          refine ⟨?_⟩
          simp only [putsFrom, Act.put, List.setIfInBounds_toArray, List.set_cons_zero, List.set_cons_succ, Nat.reduceAdd, d1, d2] at hK ⊢
          go_simp
          exact hK.out _ _ (Kp.refl _) rfl
        case sb4 =>
          refine OpStepQ.off 0 0 (by kernel_rfl) (by kernel_rfl) ?_
          intro x u p hp hg hd K hK
          obtain rfl : p = 0 := by omega
          change Kp wr u at hg
          have d3 : (x 3) = .pointer (some ⟨b, off + k * 3, none⟩) := And.left hd
          clear hd
          refine ⟨?_⟩
          simp only [putsFrom, Act.put, List.setIfInBounds_toArray, List.set_cons_zero, List.set_cons_succ, Nat.reduceAdd, d3] at hK ⊢
          go_simp
          exact hK.out _ _ (Kp.refl _) rfl
        case sb5 =>
          refine OpStepQ.off 0 0 (by kernel_rfl) (by kernel_rfl) ?_
          intro x u p hp hg hd K hK
          obtain rfl : p = 0 := by omega
          change Kp wr u at hg
          have d4 : (x 4) = .pointer (some ⟨b, off + k * 3, none⟩) := And.left hd
          clear hd
          have q := cell_kp hg hb' g0
          refine ⟨?_⟩
          simp only [putsFrom, Act.put, List.setIfInBounds_toArray, List.set_cons_zero, List.set_cons_succ, Nat.reduceAdd, d4] at hK ⊢
          go_simp
          exact hK.out _ _ (Kp.refl _) rfl
        case sb6 =>
          refine OpStepQ.off 0 0 (by kernel_rfl) (by kernel_rfl) ?_
          intro x u p hp hg hd K hK
          obtain rfl : p = 0 := by omega
          change Kp wr u at hg
          have d5 : (x 5) = .int .i64 m.shape := And.left hd
          clear hd
          have e1 : IntKind.i64.wrap (m.shape - 1) = wrap64 (m.shape - 1) := IntWalk.i64_left _
          refine ⟨?_⟩
          simp only [putsFrom, Act.put, List.setIfInBounds_toArray, List.set_cons_zero, List.set_cons_succ, Nat.reduceAdd, d5] at hK ⊢
          go_simp
          exact hK.out _ _ (Kp.refl _) rfl
        case sb7 =>
          refine OpStepQ.off 0 0 (by kernel_rfl) (by kernel_rfl) ?_
          intro x u p hp hg hd K hK
          obtain rfl : p = 0 := by omega
          change Kp wr u at hg
          have d6 : (x 6) = .int .i64 (wrap64 (m.shape - 1)) := And.left hd
          clear hd
          refine ⟨?_⟩
          simp only [putsFrom, Act.put, List.setIfInBounds_toArray, List.set_cons_zero, List.set_cons_succ, Nat.reduceAdd, d6] at hK ⊢
          go_simp
          go_at_call 17
          have hc := (spot_any (wrap64 (m.shape - 1)) 4 u (by omega) (by omega))
          refine hc.mono ?_
          clear hc
          rintro e u' ⟨rfl, rfl⟩
          dsimp only
          exact hK.out _ _ (Kp.refl _) (by rw [HSH.out]; rfl)
        case sb8 =>
          refine OpStepQ.off 0 0 (by kernel_rfl) (by kernel_rfl) ?_
          intro x u p hp hg hd K hK
          obtain rfl : p = 0 := by omega
          change Kp wr u at hg
          have d7 : (x 7) = .int .i64 sh := And.left hd
          clear hd
          have e1 : IntKind.i64.wrap (1 + sh) = 1 + sh := by rw [IntKind.wrap_i64]; omega
          refine ⟨?_⟩
          simp only [putsFrom, Act.put, List.setIfInBounds_toArray, List.set_cons_zero, List.set_cons_succ, Nat.reduceAdd, d7] at hK ⊢
          go_simp
          exact hK.out _ _ (Kp.refl _) rfl
        case sb9 =>
          refine OpStepQ.off 0 0 (by kernel_rfl) (by kernel_rfl) ?_
          intro x u p hp hg hd K hK
          obtain rfl : p = 0 := by omega
          change Kp wr u at hg
          clear hd
          refine ⟨?_⟩
          simp only [putsFrom, Act.put, List.setIfInBounds_toArray, List.set_cons_zero, List.set_cons_succ, Nat.reduceAdd] at hK ⊢
          go_simp
          exact hK.out _ _ (Kp.refl _) rfl
        case sb10 =>
          refine OpStepQ.off 0 0 (by kernel_rfl) (by kernel_rfl) ?_
          intro x u p hp hg hd K hK
          obtain rfl : p = 0 := by omega
          change Kp wr u at hg
          clear hd
          refine ⟨?_⟩
          simp only [putsFrom, Act.put, List.setIfInBounds_toArray, List.set_cons_zero, List.set_cons_succ, Nat.reduceAdd] at hK ⊢
          go_simp
          exact hK.out _ _ (Kp.refl _) rfl
        case sb11 =>
          refine OpStepQ.off 0 0 (by kernel_rfl) (by kernel_rfl) ?_
          intro x u p hp hg hd K hK
          obtain rfl : p = 0 := by omega
          change Kp wr u at hg
          have d9 : (x 9) = .slice (some ⟨b, off, none⟩) l.length c := And.left hd
          have d10 : (x 10) = .int .i64 k := And.left (And.right hd)
          clear hd
          refine ⟨?_⟩
          simp only [putsFrom, Act.put, List.setIfInBounds_toArray, List.set_cons_zero, List.set_cons_succ, Nat.reduceAdd, d9, d10] at hK ⊢
          go_simp
          exact hK.out _ _ (Kp.refl _) rfl
        case sb12 =>
          refine OpStepQ.off 0 0 (by kernel_rfl) (by kernel_rfl) ?_
          intro x u p hp hg hd K hK
          obtain rfl : p = 0 := by omega
          change Kp wr u at hg
          have d11 : (x 11) = .pointer (some ⟨b, off + k * 3, none⟩) := And.left hd
          clear hd
          refine ⟨?_⟩
          simp only [putsFrom, Act.put, List.setIfInBounds_toArray, List.set_cons_zero, List.set_cons_succ, Nat.reduceAdd, d11] at hK ⊢
          go_simp
          exact hK.out _ _ (Kp.refl _) rfl
        case sb13 =>
          refine OpStepQ.off 0 0 (by kernel_rfl) (by kernel_rfl) ?_
          intro x u p hp hg hd K hK
          obtain rfl : p = 0 := by omega
          change Kp wr u at hg
          have d12 : (x 12) = .pointer (some ⟨b, off + k * 3 + 1, none⟩) := And.left hd
          clear hd
          have q := cell_kp hg hb' g1
          refine ⟨?_⟩
          simp only [putsFrom, Act.put, List.setIfInBounds_toArray, List.set_cons_zero, List.set_cons_succ, Nat.reduceAdd, d12] at hK ⊢
          go_simp
          exact hK.out _ _ (Kp.refl _) rfl
        case sb14 =>
          refine OpStepQ.off 0 0 (by kernel_rfl) (by kernel_rfl) ?_
          intro x u p hp hg hd K hK
          obtain rfl : p = 0 := by omega
          change Kp wr u at hg
          have d13 : (x 13) = .int .i64 m.n := And.left hd
          clear hd
          refine ⟨?_⟩
          simp only [putsFrom, Act.put, List.setIfInBounds_toArray, List.set_cons_zero, List.set_cons_succ, Nat.reduceAdd, d13] at hK ⊢
          go_simp
          go_at_call 17
          have hc := (spot_any m.n 12 u (by omega) (by omega))
          refine hc.mono ?_
          clear hc
          rintro e u' ⟨rfl, rfl⟩
          dsimp only
          exact hK.out _ _ (Kp.refl _) (by rw [HNN.out]; rfl)
        case sb15 =>
          refine OpStepQ.on 0 (by kernel_rfl) (by kernel_rfl) ?_
          intro x u hg hd K hK
          change Kp wr u at hg
          have d0 : (x 0) = .pointer (some ⟨hq, 0, none⟩) := And.left hd
          have d8 : (x 8) = .int .i64 (1 + sh) := And.left (And.right hd)
          have d14 : (x 14) = .int .i64 n := And.left (And.right (And.right hd))
          clear hd
          refine ⟨?_⟩
          simp only [putsFrom, Act.put, List.setIfInBounds_toArray, List.set_cons_zero, List.set_cons_succ, Nat.reduceAdd, d0, d8, d14] at hK ⊢
          go_simp
          go_at_call 25
          have hc := (alloc_any u w.heap.size hi hq S.1 (1 + sh) n (HP.out.kp hg) HOK.out.sound (by have := hg.le; omega))
          refine hc.mono ?_
          clear hc
          rintro e u' ⟨rfl, hh2, hx2⟩
          dsimp only
          exact hK.out _ _ trivial ⟨by rw [← HT.out]; exact hh2, (Hx.of_kp hg hll).trans hx2⟩ (by rw [HPE.out]; rfl)
        case sb16 =>
          refine OpStepQ.off 1 1 (by kernel_rfl) (by kernel_rfl) ?_
          intro x u p hp hg hd K hK
          obtain rfl : p = 1 := by omega
          change HeapIs u w.heap.size hi hq T ∧ Hx w.heap.size hi wr u at hg
          have d15 : (x 15) = .tuple #[.int .i64 p, .int .i64 e] := And.left hd
          clear hd
          refine ⟨?_⟩
          simp only [putsFrom, Act.put, List.setIfInBounds_toArray, List.set_cons_zero, List.set_cons_succ, Nat.reduceAdd, d15] at hK ⊢
          go_simp
          exact hK.out _ _ (Kp.refl _) rfl
        case sb17 =>
          refine OpStepQ.off 1 1 (by kernel_rfl) (by kernel_rfl) ?_
          intro x u p hp hg hd K hK
          obtain rfl : p = 1 := by omega
          change HeapIs u w.heap.size hi hq T ∧ Hx w.heap.size hi wr u at hg
          have d16 : (x 16) = .tuple #[.int .i64 p, .int .i64 e] := And.left hd
          clear hd
          refine ⟨?_⟩
          simp only [putsFrom, Act.put, List.setIfInBounds_toArray, List.set_cons_zero, List.set_cons_succ, Nat.reduceAdd, d16] at hK ⊢
          go_simp
          exact hK.out _ _ (Kp.refl _) rfl
        case sb18 =>
          refine OpStepQ.off 1 1 (by kernel_rfl) (by kernel_rfl) ?_
          intro x u p hp hg hd K hK
          obtain rfl : p = 1 := by omega
          change HeapIs u w.heap.size hi hq T ∧ Hx w.heap.size hi wr u at hg
          have d16 : (x 16) = .tuple #[.int .i64 p, .int .i64 e] := And.left hd
          clear hd
          refine ⟨?_⟩
          simp only [putsFrom, Act.put, List.setIfInBounds_toArray, List.set_cons_zero, List.set_cons_succ, Nat.reduceAdd, d16] at hK ⊢
          go_simp
          exact hK.out _ _ (Kp.refl _) rfl
        case sb19 =>
          refine OpStepQ.off 1 1 (by kernel_rfl) (by kernel_rfl) ?_
          intro x u p hp hg hd K hK
          obtain rfl : p = 1 := by omega
          change HeapIs u w.heap.size hi hq T ∧ Hx w.heap.size hi wr u at hg
          have d17 : (x 17) = .int .i64 p := And.left hd
          clear hd
          refine ⟨?_⟩
          simp only [putsFrom, Act.put, List.setIfInBounds_toArray, List.set_cons_zero, List.set_cons_succ, Nat.reduceAdd, d17] at hK ⊢
          go_simp
          exact hK.out _ _ (Kp.refl _) rfl
        case sb20 =>
          refine OpStepQ.off 1 1 (by kernel_rfl) (by kernel_rfl) ?_
          intro x u p hp hg hd K hK
          obtain rfl : p = 1 := by omega
          change HeapIs u w.heap.size hi hq T ∧ Hx w.heap.size hi wr u at hg
          have d18 : (x 18) = .int .i64 e := And.left hd
          clear hd
          refine ⟨?_⟩
          simp only [putsFrom, Act.put, List.setIfInBounds_toArray, List.set_cons_zero, List.set_cons_succ, Nat.reduceAdd, d18] at hK ⊢
          go_simp
          exact hK.out _ _ (Kp.refl _) rfl
        intro x u hg he
        have d0 : (x 0) = .pointer (some ⟨hq, 0, none⟩) := And.left he
        have d1 : (x 1) = .slice (some ⟨b, off, none⟩) l.length c := And.left (And.right he)
        have d2 : (x 2) = .int .i64 k := And.left (And.right (And.right he))
        have d3 : (x 3) = .pointer (some ⟨b, off + k * 3, none⟩) := And.left (And.right (And.right (And.right he)))
        have d4 : (x 4) = .pointer (some ⟨b, off + k * 3, none⟩) := And.left (And.right (And.right (And.right (And.right he))))
        have d5 : (x 5) = .int .i64 m.shape := And.left (And.right (And.right (And.right (And.right (And.right he)))))
        have d6 : (x 6) = .int .i64 (wrap64 (m.shape - 1)) := And.left (And.right (And.right (And.right (And.right (And.right (And.right he))))))
        have d7 : (x 7) = .int .i64 sh := And.left (And.right (And.right (And.right (And.right (And.right (And.right (And.right he)))))))
        have d8 : (x 8) = .int .i64 (1 + sh) := And.left (And.right (And.right (And.right (And.right (And.right (And.right (And.right (And.right he))))))))
        have d9 : (x 9) = .slice (some ⟨b, off, none⟩) l.length c := And.left (And.right (And.right (And.right (And.right (And.right (And.right (And.right (And.right (And.right he)))))))))
        have d10 : (x 10) = .int .i64 k := And.left (And.right (And.right (And.right (And.right (And.right (And.right (And.right (And.right (And.right (And.right he))))))))))
        have d11 : (x 11) = .pointer (some ⟨b, off + k * 3, none⟩) := And.left (And.right (And.right (And.right (And.right (And.right (And.right (And.right (And.right (And.right (And.right (And.right he)))))))))))
        have d12 : (x 12) = .pointer (some ⟨b, off + k * 3 + 1, none⟩) := And.left (And.right (And.right (And.right (And.right (And.right (And.right (And.right (And.right (And.right (And.right (And.right (And.right he))))))))))))
        have d13 : (x 13) = .int .i64 m.n := And.left (And.right (And.right (And.right (And.right (And.right (And.right (And.right (And.right (And.right (And.right (And.right (And.right (And.right he)))))))))))))
        have d14 : (x 14) = .int .i64 n := And.left (And.right (And.right (And.right (And.right (And.right (And.right (And.right (And.right (And.right (And.right (And.right (And.right (And.right (And.right he))))))))))))))
        have d15 : (x 15) = .tuple #[.int .i64 p, .int .i64 e] := And.left (And.right (And.right (And.right (And.right (And.right (And.right (And.right (And.right (And.right (And.right (And.right (And.right (And.right (And.right (And.right he)))))))))))))))
        have d16 : (x 16) = .tuple #[.int .i64 p, .int .i64 e] := And.left (And.right (And.right (And.right (And.right (And.right (And.right (And.right (And.right (And.right (And.right (And.right (And.right (And.right (And.right (And.right (And.right he))))))))))))))))
        have d17 : (x 17) = .int .i64 p := And.left (And.right (And.right (And.right (And.right (And.right (And.right (And.right (And.right (And.right (And.right (And.right (And.right (And.right (And.right (And.right (And.right (And.right he)))))))))))))))))
        have d18 : (x 18) = .int .i64 e := And.left (And.right (And.right (And.right (And.right (And.right (And.right (And.right (And.right (And.right (And.right (And.right (And.right (And.right (And.right (And.right (And.right (And.right (And.right he))))))))))))))))))
        have d19 : (x 19) = .int .i64 p := And.left (And.right (And.right (And.right (And.right (And.right (And.right (And.right (And.right (And.right (And.right (And.right (And.right (And.right (And.right (And.right (And.right (And.right (And.right (And.right he)))))))))))))))))))
        have d20 : (x 20) = .int .i64 e := And.left (And.right (And.right (And.right (And.right (And.right (And.right (And.right (And.right (And.right (And.right (And.right (And.right (And.right (And.right (And.right (And.right (And.right (And.right (And.right (And.right he))))))))))))))))))))
        clear he
        change HeapIs u w.heap.size hi hq T ∧ Hx w.heap.size hi wr u at hg
        refine ⟨?_⟩
        simp only [putsFrom, Act.put, List.setIfInBounds_toArray, List.set_cons_zero, List.set_cons_succ, Nat.reduceAdd, d0, d1, d2, d3, d4, d5, d6, d7, d8, d9, d10, d11, d12, d13, d14, d15, d16, d17, d18, d19, d20]
        clear d0 d1 d2 d3 d4 d5 d6 d7 d8 d9 d10 d11 d12 d13 d14 d15 d16 d17 d18 d19 d20
        clear g0 g1 g2
        have HG := hid hg
        clear hg
        by_cases he : e = 0
        · subst he
          go_wp2
          obtain ⟨hh3, hx3⟩ := HG.out
          have H3 := hid hh3; have X3 := hid hx3
          have hl3 : hi ≤ u.heap.size := Nat.le_trans hwl hx3.size
          have hokT : ∀ p ∈ S.2, okI p := fun p hp => okI_isB (HOK.out.at_ p hp) (by rw [HOK.out.room_]; have := HN.out; omega)
          have hOK2 := hid hokT
          have HOU := hid (HO.out.hx HG.out.2)
          have HKU : Hid (Kp w u) := hid (Below.trans HKW.out (Hx.below HG.out.2))
          have hll2 : w.heap.size ≤ u.heap.size := HKU.out.le
          clear hh3 hx3 hokT
          go_loopw [13] (fun j wj => ∃ i : Nat, i ≤ m.cells.length ∧ j = .int .i64 i ∧ HeapIs wj w.heap.size hi hq (putM S.2 p m.cells i T) ∧ Hx w.heap.size hi u wj) (fun j _ => m.cells.length - lenI j)
          case atStart => exact ⟨0, by omega, rfl, H3.out, Hx.refl _ _ _⟩
          case round =>
            obtain ⟨i, hi1, rfl, hh4, hx4⟩ := hrel
            have H4 := hid hh4; have X4 := hid hx4
            have hl4 : hi ≤ wr.heap.size := Nat.le_trans hl3 hx4.size
            have hll4 : w.heap.size ≤ wr.heap.size := Nat.le_trans hll2 hx4.size
            have hkj : Kp w wr := Below.trans HKU.out (Hx.below hx4)
            obtain ⟨b', off', e', hbj, lcj, g0, g1, g2, _, _, hcs, hcl⟩ := at_make (HR.out.kp CeMake.kp hkj) HM.out
            cases e'
            obtain ⟨A2, c2, rfl, hc2⟩ := RdL.form hcs
            have HCS := hid hcs
            clear hh4 hx4 hkj hcs
            have q0 : (0 : Int) ≤ (k : Int) := by omega
            have q1 : (k : Int) < (l.length : Int) := by omega
            by_cases hlt2 : i < m.cells.length
            · have r1 : (i : Int) < (m.cells.length : Int) := by omega
              obtain ⟨cc, hcc⟩ : ∃ cc, m.cells[i]? = some cc := ⟨_, List.getElem?_eq_getElem hlt2⟩
              obtain ⟨b3, o3, rfl, hb3, d0, d1, _, _⟩ := at_cell HCS.out hcc
              have HP2 : Hid (HeapIs wr w.heap.size hi hq (putM S.2 p m.cells i T) → HeapIs wr w.heap.size hi hq (putM S.2 p m.cells i T)) := hid id
              obtain ⟨t0, t1⟩ := spotV_bd cc.tag 8 (by omega)
              have hst : ∀ c' : CellM, turnC S.2 cc = c' → putM S.2 p m.cells (i + 1) T = storeH (putM S.2 p m.cells i T) p i c' := fun c' h => by
                show storeH _ p i (turnC S.2 (m.cells.getD i ⟨0, 0⟩)) = _
                rw [List.getD, hcc, Option.getD_some, h]
              obtain ⟨tg, htg⟩ : ∃ tg, spotV cc.tag 8 = tg := ⟨_, rfl⟩
              rw [htg] at t0 t1
              have HST := hid hst; have HTG := hid htg
              have a0 : wr.heap.size < (wr.alloc (.cells #[.int .i64 cc.tag, .int .i64 cc.n] 24)).heap.size := by simp
              clear hst htg hcc
              by_cases h6 : tg = 6
              · subst h6
                have b6 : ((6 : Int) == 6) = true := by decide
                rcases Nat.eq_zero_or_pos S.2.length with h0 | h0
                · have i0 : ¬ (0 : Int) < (S.2.length : Int) := by omega
                  have htc : turnC S.2 cc = ⟨6, cc.n⟩ := by unfold turnC; rw [HTG.out, if_neg (fun h => by omega)]
                  have HTC := hid htc
                  have e0 : Hid (S.2.length = 0) := hid h0
                  clear htc h0
                  go_wp2_with first | (go_at_call 17; go_must (refine (spot_any cc.tag 8 _ (by decide) (by decide)).mono ?_); rintro e w4 ⟨rfl, rfl⟩; rw [HTG.out]) | (go_at_call 16; go_must (refine (store_any _ w.heap.size hi hq (putM S.2 p m.cells i T) p i ⟨6, cc.n⟩ (H4.out.kp ((Kp.refl _).alloc _)) (Nat.le_trans hll4 (Below.size ((Kp.refl _).alloc _)))).mono ?_); rintro e w5 ⟨rfl, hh5, hx5⟩)
                  have H5 := hid hh5; have X5 := hid hx5
                  clear hh5 hx5
                  go_roundw
                  case rel => exact ⟨i + 1, by omega, rfl, by rw [HST.out _ HTC.out]; exact H5.out, X4.out.trans ((Hx.of_kp ((Kp.refl wr).alloc _) (by omega)).trans X5.out)⟩
                  case measure => simp only [lenI]; omega
                · have i0 : (0 : Int) < (S.2.length : Int) := by omega
                  obtain ⟨z0, z1⟩ := spotV_bd cc.n S.2.length (by omega)
                  have hrd := OwnI.rd (HOU.out.hx X4.out) (by omega) hOK2.out
                  obtain ⟨q, hq'⟩ : ∃ q : Nat, spotV cc.n S.2.length = q := ⟨(spotV cc.n S.2.length).toNat, by omega⟩
                  rw [hq'] at z0 z1
                  obtain ⟨_, _, A0, c0, e9, _, hat⟩ := hrd
                  cases e9
                  obtain ⟨b9, o9, rfl, hb9, hat⟩ := hat h0
                  have hc9 := hat q (by omega)
                  obtain ⟨pa, hpa⟩ : ∃ pa, S.2.getD q 0 = pa := ⟨_, rfl⟩
                  rw [hpa] at hc9
                  have hc9' : wr.cell? ⟨b9, o9 + q, none⟩ = some (.int .i64 pa) := hc9
                  have htc : turnC S.2 cc = ⟨6, pa⟩ := by
                    unfold turnC; rw [HTG.out, if_pos ⟨rfl, h0⟩, hq', ← hpa]; rfl
                  have HTC := hid htc; have HQ := hid hq'
                  have hc9a := cell_kp ((Kp.refl wr).alloc (.cells #[.int .i64 6, .int .i64 cc.n] 24)) hb9 hc9'
                  have z3 : q < S.2.length := by omega
                  have L60 := hid (show (S.2.length : Int) ≤ 9223372036854775807 by omega)
                  have I0 := hid i0
                  clear htc hat hc9 hpa hq'
                  go_wp2_with first | (go_at_call 17; go_must (refine (spot_any _ _ _ (by first | decide | exact I0.out) (by first | decide | exact L60.out)).mono ?_); rintro e w4 ⟨rfl, rfl⟩; first | rw [HTG.out] | rw [HQ.out]) | (go_at_call 16; go_must (refine (store_any _ w.heap.size hi hq (putM S.2 p m.cells i T) p i ⟨6, pa⟩ (H4.out.kp ((Kp.refl _).alloc _)) (Nat.le_trans hll4 (Below.size ((Kp.refl _).alloc _)))).mono ?_); rintro e w5 ⟨rfl, hh5, hx5⟩)
                  have H5 := hid hh5; have X5 := hid hx5
                  clear hh5 hx5
                  go_roundw
                  case rel => exact ⟨i + 1, by omega, rfl, by rw [HST.out _ HTC.out]; exact H5.out, X4.out.trans ((Hx.of_kp ((Kp.refl wr).alloc _) (by omega)).trans X5.out)⟩
                  case measure => simp only [lenI]; omega
              · have b6 : (tg == 6) = false := by simp [h6]
                have htc : turnC S.2 cc = ⟨tg, cc.n⟩ := by unfold turnC; rw [HTG.out, if_neg (fun h => h6 h.1)]
                have HTC := hid htc
                clear htc
                go_wp2_with first | (go_at_call 17; go_must (refine (spot_any cc.tag 8 _ (by decide) (by decide)).mono ?_); rintro e w4 ⟨rfl, rfl⟩; rw [HTG.out]) | (go_at_call 16; go_must (refine (store_any _ w.heap.size hi hq (putM S.2 p m.cells i T) p i ⟨tg, cc.n⟩ (H4.out.kp ((Kp.refl _).alloc _)) (Nat.le_trans hll4 (Below.size ((Kp.refl _).alloc _)))).mono ?_); rintro e w5 ⟨rfl, hh5, hx5⟩)
                have H5 := hid hh5; have X5 := hid hx5
                clear hh5 hx5
                go_roundw
                case rel => exact ⟨i + 1, by omega, rfl, by rw [HST.out _ HTC.out]; exact H5.out, X4.out.trans ((Hx.of_kp ((Kp.refl wr).alloc _) (by omega)).trans X5.out)⟩
                case measure => simp only [lenI]; omega
            · have r1 : ¬ (i : Int) < (m.cells.length : Int) := by omega
              obtain rfl : i = m.cells.length := by omega
              have hown4 : wr.ownsRow hi 3 1 (.slice A9 S.2.length c9) S.2.length (S.2.map intV) := HOU.out.hx X4.out
              have hl16 : S.2.length ≤ 60 := by omega
              have b1 : S.2.length + 1 ≤ maxLen := by unfold maxLen; omega
              have b2 : (S.2.length + 1) * 8 ≤ 140737488355328 := by omega
              have B1 := hid b1; have B2 := hid b2; have HO4 := hid hown4
              clear b1 b2 hown4
              go_wp2_with (at_builtin; go_must (refine app_lit elInt rfl (.tmp 102) (.tmp 104) rfl HO4.out rfl _ _ 1 1 rfl rfl (by intro u hu; simp at hu; subst hu; rfl) B1.out B2.out hl4 ?_); intro v2 w2 hown2 hg2 hm2 hn2 hb2)
              go_roundw
              case rel =>
                have e : madeN room l (k + 1) = (putM S.2 p m.cells m.cells.length T, S.2 ++ [p]) := by
                  rw [madeN_succ room l k m HM.out, HS.out, HMK.out, HPE.out, if_neg (by simp), HT.out]
                refine ⟨k + 1, by omega, by omega, rfl, ?_, ?_, ?_, Nat.le_trans hl4 hb2.size⟩
                · rw [e]; exact H4.out.below hb2
                · rw [e]; show w2.ownsRow hi 3 1 v2 (S.2 ++ [p]).length ((S.2 ++ [p]).map intV); rw [List.length_append, List.map_append]; exact hown2
                · exact Below.trans HX.out (Below.trans (Hx.below (HG.out.2.trans X4.out)) (Below.mono hb2 HLO.out))
              case measure => simp only [lenI]; omega
        · have be : (e != 0) = true := by simp [he]
          go_wp2
          go_roundw
          case rel =>
            refine ⟨k + 1, by omega, by omega, rfl, ?_, ?_, HX.out.trans (Hx.below HG.out.2), Nat.le_trans hwl HG.out.2.size⟩
            · rw [madeN_succ room l k m HM.out, HS.out, HMK.out, HPE.out, if_pos he, ← e_of_ne HT.out HPE.out he]; exact HG.out.1
            · rw [madeN_succ room l k m HM.out, HS.out, HMK.out, HPE.out, if_pos he]; exact HO.out.hx HG.out.2
          case measure => simp only [lenI]; omega
      · have i1 : (k : Int) < (l.length : Int) := by omega
        have i2 : ¬ (k : Int) < 60 := by omega
        have e : madeM room l = S := by
          have : k = 60 := by omega
          rw [← HS.out, this]; rfl
        go_wp2
        go_ret3
        exact ⟨⟨hq, hi, _, rfl, by rw [e]; exact HP.out, hwl, by rw [e]; exact HO.out⟩, HKW.out⟩
    · have i1 : ¬ ((k : Int) < (l.length : Int)) := by omega
      have e : madeM room l = S := by rw [← HS.out, madeN_all room l k (by omega) hk60]
      go_wp2
      go_ret3
      exact ⟨⟨hq, hi, _, rfl, by rw [e]; exact HP.out, hwl, by rw [e]; exact HO.out⟩, HKW.out⟩
end Go.Proofs.Ytffjfkmnlfndkaa
