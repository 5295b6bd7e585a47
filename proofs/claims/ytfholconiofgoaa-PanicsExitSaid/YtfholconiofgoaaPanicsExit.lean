/-
  The law PanicsExit answers true for all lists of events and numbers. No condition.
-/
import Derived.SizedLaws
import Derived.Deep.CondSized
import Derived.Test.YtfholconiofgoaaRows
import Derived.Test.YtfholconiofgoaaPanL
import Derived.Test.YtfholconiofgoaaSpot
namespace Go.Proofs.Ytfholconiofgoaa.panicsExit
open Go.ChangeShapes Go.WideShapes Go.ChangeAt Go.RowKit
open Go.ChangeMaps (open_string shut_string)
set_option linter.unusedVariables false

theorem own : ownKnob Try.prog.godebug = none := by kernel_rfl
theorem laidOut : laidOutB Try.prog = true := by kernel_rfl


theorem spot_bits (n : Int) : spotV n 256 = bits8 n := by
  have h := tmod_facts n 256 (by decide)
  unfold spotV bits8
  split <;> omega
theorem spot_b (n : Int) (w : World) : Calls Try.prog 18 #[.int .i64 n, .int .i64 256] w fun e w' => e = .returned (.int .i64 (bits8 n)) ∧ w = w' := by
  have h := spot_any n 256 w (by decide) (by decide)
  rw [spot_bits] at h
  exact h
theorem ok_c {k : Int} (h : 0 ≤ k) (h2 : k ≤ 1000) : okI k := by unfold okI; omega
theorem ev_at (w : World) (k n : Int) (hk : okI k) (hn : okI n) : RdEvent w (.agg #[.int .i64 k, .int .i64 n, .int .i64 0, .int .i64 0, .string ⟨#[]⟩, .slice none 0 0]) ⟨k, n, zV⟩ :=
  ⟨_, rfl, hk, hn, ⟨by simp [zV], by simp [zV], none, 0, by simp [zV], by simp [zV], fun h => by simp [zV] at h⟩, ok_c (k := 0) (by decide) (by decide), ok_c (k := 0) (by decide) (by decide), by show (0 : Nat) ≤ _; decide, by show (0 : Nat) ≤ _; decide⟩
theorem exit_ev (S : PlM) (n : Int) (h : S.told = []) : eventM S ⟨6, n, zV⟩ = ⟨S.fr, S.pn, S.next, S.ser, 3, bits8 n, [⟨7, 3, 0, zV⟩]⟩ := by
  unfold eventM PlM.over; simp [h]
theorem exit_own {u : World} {base : Nat} {fv pv : Value} {S : PlM} (n : Int) (h : StOwn u base fv pv S) (hG : Good S) (he : S.en = 0) (hg : Gr 400 S) (nt : S.told = []) (hn : okI n) :
    Calls Try.prog 15 #[.agg #[fv, pv, .int .i64 S.next, .int .i64 S.ser, .int .i64 S.en, .int .i64 S.stat], .agg #[.int .i64 6, .int .i64 n, .int .i64 0, .int .i64 0, .string ⟨#[]⟩, .slice none 0 0]] u (StepPost u ⟨S.fr, S.pn, S.next, S.ser, 3, bits8 n, [⟨7, 3, 0, zV⟩]⟩) := by
  have hc := step_own (e := ⟨6, n, zV⟩) h hG he hg (by decide) nt (ev_at _ 6 n (ok_c (by decide) (by decide)) hn) ⟨.inr (.inr (.inr (.inr (.inr rfl)))), fun h => absurd h (by show ¬ (6 : Int) = 4; decide)⟩
  rw [exit_ev _ _ nt] at hc
  exact hc
set_option maxRecDepth 20000 in
set_option maxHeartbeats 8000000 in
theorem walk (v0 : Value) (a0 : List EventM) (a1 : Int) (w : World) (w0 : RdEventsB w v0 a0) (w1 : (Lit.int .i64 a1).wf = true) :
    Calls Try.prog 6 #[v0, .int .i64 a1] w fun e w' => e = .returned (.bool true) ∧ Kp w w' := by
  have HL := hid (show RdL CeEvent 6 w v0 a0 from w0.1)
  obtain ⟨A, c, rfl, hlc⟩ := w0.1.form
  have hia : okI a1 := bounds_i64 w1
  have HIA := hid hia
  clear w0 w1 hia
  go_enter Try.func6, Try.ntmps6
  go_wp2_with fail
  refine (events_any _ a0 _ HL.out).mono ?_
  rintro e u1 ⟨⟨v1, rfl, h1⟩, hk1⟩
  go_wp2_with fail
  refine (played_any _ (eventsM a0) _ h1.rd (eventsM_ok _) (eventsM_len _)).mono ?_
  rintro e u2 ⟨⟨vs, va, rfl, h2, h3⟩, hk2⟩
  have HG := hid (all_good (eventsM_len a0))
  have HLL := hid (states_le (eventsM_len a0))
  have HN := hid (show 0 < (st0 :: statesM st0 (eventsM a0)).length by simp)
  generalize st0 :: statesM st0 (eventsM a0) = L at HG HLL HN h2
  obtain ⟨As, cs, rfl, hLc⟩ := h2.rd.form
  have HS := hid h2; have HK := hid (hk1.trans hk2)
  obtain ⟨n1, hn1⟩ : ∃ n1, L.length = n1 + 1 := ⟨L.length - 1, by have := HN.out; omega⟩
  obtain ⟨S, hS⟩ : ∃ S, L[n1]? = some S := ⟨_, List.getElem?_eq_getElem (by omega)⟩
  obtain ⟨hG, hT, hgr⟩ := HG.out S (List.mem_of_getElem? hS)
  have HGS := hid hG; have HGR := hid hgr; have HTD := hid hT
  obtain ⟨b, off, rfl, hb, fv, pv, q0, q1, q2, q3, q4, q5, hso⟩ := at_sts HS.out hS
  have HSO := hid hso
  obtain ⟨A1, cF, B1, cP, rfl, rfl⟩ := hso.form
  have i1 : (n1 : Int) < (L.length : Int) := by omega
  have i3 : (1 : Int) ≤ (L.length : Int) := by omega
  have i2 : IntKind.i64.wrap ((L.length : Int) - 1) = (n1 : Int) := by rw [IntKind.wrap_i64]; have := HLL.out; omega
  clear h1 h2 h3 hk1 hk2 hn1 hS hso hG hgr hT hLc
  by_cases he : S.en = 0
  · have t0 : (S.en != 0) = false := by simp [he]
    have HE := hid he
    clear he
    go_wp2_with fail
    refine (exit_own a1 (HSO.out.kp ((Kp.refl _).alloc _)) HGS.out HE.out HGR.out HTD.out HIA.out).mono ?_
    rintro e u3 ⟨⟨fv1, pv1, tv, rfl, ho, htd⟩, hk3⟩
    have HO := hid ho; have HT := hid htd
    have HK3 := hid (((Kp.refl _).alloc _).trans hk3)
    obtain ⟨A3, c3, B3, d3, rfl, rfl⟩ := ho.form
    obtain ⟨A4, c4, rfl, _⟩ := htd.len
    clear ho htd hk3
    dsimp only
    go_wp2_with fail
    refine (step_over _ _ _ ⟨S.fr.reverse, S.pn.reverse, S.next, S.ser, 3, bits8 a1⟩ ⟨2, 0, zV⟩ ((HO.out.kp ((Kp.refl _).alloc _)).rdState HGR.out.fl (by have := HGR.out.pl; show S.pn.length ≤ _; omega)).1 (ev_at _ 2 0 (ok_c (by decide) (by decide)) (ok_c (by decide) (by decide))) (by show (3 : Int) ≠ 0; decide)).mono ?_
    rintro e u4 ⟨rfl, hk4⟩
    have HB := hid (StBox.kp (show StBox (u3.alloc (Obj.cells #[.slice A3 S.fr.length c3, .slice B3 S.pn.length d3, .int .i64 S.next, .int .i64 S.ser, .int .i64 3, .int .i64 (bits8 a1)] 36)) u3.heap.size (.slice A3 S.fr.length c3) (.slice B3 S.pn.length d3) ⟨[], [], S.next, S.ser, 3, bits8 a1⟩ from blk_new _ _) hk4)
    have HK4 := hid (((Kp.refl u3).alloc _).trans hk4)
    clear hk4
    obtain ⟨bx, hbx⟩ : ∃ bx, u3.heap.size = bx := ⟨_, rfl⟩
    rw [hbx] at HB ⊢
    clear hbx
    go_wp2_with fail
    have HKW := hid (show Kp u4 (u4.alloc (Obj.cells #[.slice none 0 0, .slice none 0 0, .int .i64 0, .int .i64 0, .int .i64 0, .int .i64 0] 36)) from (Kp.refl _).alloc _)
    generalize u4.alloc (Obj.cells #[.slice none 0 0, .slice none 0 0, .int .i64 0, .int .i64 0, .int .i64 0, .int .i64 0] 36) = W at HKW ⊢
    obtain ⟨tb, to, rfl, htb, A5, c5, y0, y1, _, _, _, _, _, _⟩ := at_td (HT.out.kp (HK4.out.trans HKW.out)) (i := 0) rfl
    simp only [Nat.zero_mul, Nat.add_zero] at y0 y1
    obtain ⟨_, _, _, _, z4, z5, _⟩ := (HB.out.kp HKW.out).cells
    dsimp only at z4 z5
    have Y0 := hid y0; have Y1 := hid y1; have Z4 := hid z4; have Z5 := hid z5; have HTB := hid htb; have HBX := hid (blk_lt (HB.out.kp HKW.out))
    clear y0 y1 z4 z5 q0 q1 q2 q3 q4 q5
    refine wp_region_kp [[], [0], [1], [2], [2, 3], [2, 4], [5], [6], [6, 7], [6, 8], [6, 9], [10], [11], [11, 12], [11], [11, 14], [11, 13, 15], [11, 16], [17], [18], [18, 19], [18, 20], [18, 21], [22], [23], [23, 24], [23, 25], [23, 26], [23, 27], [23, 28], [29], [30], [30, 31], [30, 32], [30, 33], [30, 34], [30, 35], [36]] (fun u => Kp W u)
      [fun (y : Value) (u : World) => y = (.int .i64 0 : Value),
       fun (y : Value) (u : World) => y = (.bool true : Value),
       fun (y : Value) (u : World) => y = (.bool true : Value),
       fun (y : Value) (u : World) => y = (.int .i64 17 : Value),
       fun (y : Value) (u : World) => y = (.bool true : Value),
       fun (y : Value) (u : World) => y = (.bool true : Value),
       fun (y : Value) (u : World) => y = (.bool true : Value),
       fun (y : Value) (u : World) => y = (.pointer (some ⟨bx, 4, none⟩) : Value),
       fun (y : Value) (u : World) => y = (.int .i64 3 : Value),
       fun (y : Value) (u : World) => y = (.bool true : Value),
       fun (y : Value) (u : World) => y = (.bool true : Value),
       fun (y : Value) (u : World) => y = (.bool true : Value),
       fun (y : Value) (u : World) => y = (.pointer (some ⟨bx, 5, none⟩) : Value),
       fun (y : Value) (u : World) => y = (.int .i64 (bits8 a1) : Value),
       fun (y : Value) (u : World) => y = (.int .i64 a1 : Value),
       fun (y : Value) (u : World) => y = (.int .i64 (bits8 a1) : Value),
       fun (y : Value) (u : World) => y = (.bool true : Value),
       fun (y : Value) (u : World) => y = (.bool true : Value),
       fun (y : Value) (u : World) => y = (.bool true : Value),
       fun (y : Value) (u : World) => y = (.slice (some ⟨tb, to, none⟩) 1 c4 : Value),
       fun (y : Value) (u : World) => y = (.int .i64 1 : Value),
       fun (y : Value) (u : World) => y = (.bool true : Value),
       fun (y : Value) (u : World) => y = (.bool true : Value),
       fun (y : Value) (u : World) => y = (.bool true : Value),
       fun (y : Value) (u : World) => y = (.slice (some ⟨tb, to, none⟩) 1 c4 : Value),
       fun (y : Value) (u : World) => y = (.pointer (some ⟨tb, to, none⟩) : Value),
       fun (y : Value) (u : World) => y = (.pointer (some ⟨tb, to, none⟩) : Value),
       fun (y : Value) (u : World) => y = (.int .i64 7 : Value),
       fun (y : Value) (u : World) => y = (.bool true : Value),
       fun (y : Value) (u : World) => y = (.bool true : Value),
       fun (y : Value) (u : World) => y = (.bool true : Value),
       fun (y : Value) (u : World) => y = (.slice (some ⟨tb, to, none⟩) 1 c4 : Value),
       fun (y : Value) (u : World) => y = (.pointer (some ⟨tb, to, none⟩) : Value),
       fun (y : Value) (u : World) => y = (.pointer (some ⟨tb, to + 1, none⟩) : Value),
       fun (y : Value) (u : World) => y = (.int .i64 3 : Value),
       fun (y : Value) (u : World) => y = (.bool true : Value),
       fun (y : Value) (u : World) => y = (.bool true : Value),
       fun (y : Value) (u : World) => y = (.bool true : Value)]
      (by kernel_rfl) (by kernel_rfl) (by kernel_rfl) (by kernel_rfl) ((Kp.refl _).drew) (fun _ _ hk h => h.trans hk) ⟨fun _ _ _ _ h => h, fun _ _ _ _ h => h, fun _ _ _ _ h => h, fun _ _ _ _ h => h, fun _ _ _ _ h => h, fun _ _ _ _ h => h, fun _ _ _ _ h => h, fun _ _ _ _ h => h, fun _ _ _ _ h => h, fun _ _ _ _ h => h, fun _ _ _ _ h => h, fun _ _ _ _ h => h, fun _ _ _ _ h => h, fun _ _ _ _ h => h, fun _ _ _ _ h => h, fun _ _ _ _ h => h, fun _ _ _ _ h => h, fun _ _ _ _ h => h, fun _ _ _ _ h => h, fun _ _ _ _ h => h, fun _ _ _ _ h => h, fun _ _ _ _ h => h, fun _ _ _ _ h => h, fun _ _ _ _ h => h, fun _ _ _ _ h => h, fun _ _ _ _ h => h, fun _ _ _ _ h => h, fun _ _ _ _ h => h, fun _ _ _ _ h => h, fun _ _ _ _ h => h, fun _ _ _ _ h => h, fun _ _ _ _ h => h, fun _ _ _ _ h => h, fun _ _ _ _ h => h, fun _ _ _ _ h => h, fun _ _ _ _ h => h, fun _ _ _ _ h => h, fun _ _ _ _ h => h, trivial⟩ ⟨?sb0, ?sb1, ?sb2, ?sb3, ?sb4, ?sb5, ?sb6, ?sb7, ?sb8, ?sb9, ?sb10, ?sb11, ?sb12, ?sb13, ?sb14, ?sb15, ?sb16, ?sb17, ?sb18, ?sb19, ?sb20, ?sb21, ?sb22, ?sb23, ?sb24, ?sb25, ?sb26, ?sb27, ?sb28, ?sb29, ?sb30, ?sb31, ?sb32, ?sb33, ?sb34, ?sb35, ?sb36, ?sb37, trivial⟩ ?hEb
    case sb0 =>
      intro x u hg hd K hK
      clear hd
      refine ⟨?_⟩
      simp only [putsFrom, Act.put, List.setIfInBounds_toArray, List.set_cons_zero, List.set_cons_succ, Nat.reduceAdd] at hK ⊢
      go_simp
      exact hK.out _ _ (Kp.refl _) rfl
    case sb1 =>
      intro x u hg hd K hK
      have d0 : (x 0) = .int .i64 0 := And.left hd
      clear hd
      refine ⟨?_⟩
      simp only [putsFrom, Act.put, List.setIfInBounds_toArray, List.set_cons_zero, List.set_cons_succ, Nat.reduceAdd, d0] at hK ⊢
      go_simp
      exact hK.out _ _ (Kp.refl _) rfl
    case sb2 =>
      intro x u hg hd K hK
      have d1 : (x 1) = .bool true := And.left hd
      clear hd
      refine ⟨?_⟩
      simp only [putsFrom, Act.put, List.setIfInBounds_toArray, List.set_cons_zero, List.set_cons_succ, Nat.reduceAdd, d1] at hK ⊢
      go_simp
      exact hK.out _ _ (Kp.refl _) rfl
    case sb3 =>
      intro x u hg hd K hK
      have d2 : (x 2) = .bool true := And.left hd
      clear hd
      refine ⟨?_⟩
      simp only [putsFrom, Act.put, List.setIfInBounds_toArray, List.set_cons_zero, List.set_cons_succ, Nat.reduceAdd, d2] at hK ⊢
      go_simp
      exact hK.out _ _ (Kp.refl _) rfl
    case sb4 =>
      intro x u hg hd K hK
      have d2 : (x 2) = .bool true := And.left hd
      have d3 : (x 3) = .int .i64 17 := And.left (And.right hd)
      clear hd
      refine ⟨?_⟩
      simp only [putsFrom, Act.put, List.setIfInBounds_toArray, List.set_cons_zero, List.set_cons_succ, Nat.reduceAdd, d2, d3] at hK ⊢
      go_simp
      exact hK.out _ _ (Kp.refl _) rfl
    case sb5 =>
      intro x u hg hd K hK
      have d2 : (x 2) = .bool true := And.left hd
      have d4 : (x 4) = .bool true := And.left (And.right hd)
      clear hd
      refine ⟨?_⟩
      simp only [putsFrom, Act.put, List.setIfInBounds_toArray, List.set_cons_zero, List.set_cons_succ, Nat.reduceAdd, d2, d4] at hK ⊢
      go_simp
      exact hK.out _ _ (Kp.refl _) rfl
    case sb6 =>
      intro x u hg hd K hK
      have d5 : (x 5) = .bool true := And.left hd
      clear hd
      refine ⟨?_⟩
      simp only [putsFrom, Act.put, List.setIfInBounds_toArray, List.set_cons_zero, List.set_cons_succ, Nat.reduceAdd, d5] at hK ⊢
      go_simp
      exact hK.out _ _ (Kp.refl _) rfl
    case sb7 =>
      intro x u hg hd K hK
      have d6 : (x 6) = .bool true := And.left hd
      clear hd
      refine ⟨?_⟩
      simp only [putsFrom, Act.put, List.setIfInBounds_toArray, List.set_cons_zero, List.set_cons_succ, Nat.reduceAdd, d6] at hK ⊢
      go_simp
      exact hK.out _ _ (Kp.refl _) rfl
    case sb8 =>
      intro x u hg hd K hK
      have d6 : (x 6) = .bool true := And.left hd
      have d7 : (x 7) = .pointer (some ⟨bx, 4, none⟩) := And.left (And.right hd)
      clear hd
      have q0 := cell_kp hg HBX.out Z4.out
      refine ⟨?_⟩
      simp only [putsFrom, Act.put, List.setIfInBounds_toArray, List.set_cons_zero, List.set_cons_succ, Nat.reduceAdd, d6, d7] at hK ⊢
      go_simp
      exact hK.out _ _ (Kp.refl _) rfl
    case sb9 =>
      intro x u hg hd K hK
      have d6 : (x 6) = .bool true := And.left hd
      have d8 : (x 8) = .int .i64 3 := And.left (And.right hd)
      clear hd
      refine ⟨?_⟩
      simp only [putsFrom, Act.put, List.setIfInBounds_toArray, List.set_cons_zero, List.set_cons_succ, Nat.reduceAdd, d6, d8] at hK ⊢
      go_simp
      exact hK.out _ _ (Kp.refl _) rfl
    case sb10 =>
      intro x u hg hd K hK
      have d6 : (x 6) = .bool true := And.left hd
      have d9 : (x 9) = .bool true := And.left (And.right hd)
      clear hd
      refine ⟨?_⟩
      simp only [putsFrom, Act.put, List.setIfInBounds_toArray, List.set_cons_zero, List.set_cons_succ, Nat.reduceAdd, d6, d9] at hK ⊢
      go_simp
      exact hK.out _ _ (Kp.refl _) rfl
    case sb11 =>
      intro x u hg hd K hK
      have d10 : (x 10) = .bool true := And.left hd
      clear hd
      refine ⟨?_⟩
      simp only [putsFrom, Act.put, List.setIfInBounds_toArray, List.set_cons_zero, List.set_cons_succ, Nat.reduceAdd, d10] at hK ⊢
      go_simp
      exact hK.out _ _ (Kp.refl _) rfl
    case sb12 =>
      intro x u hg hd K hK
      have d11 : (x 11) = .bool true := And.left hd
      clear hd
      refine ⟨?_⟩
      simp only [putsFrom, Act.put, List.setIfInBounds_toArray, List.set_cons_zero, List.set_cons_succ, Nat.reduceAdd, d11] at hK ⊢
      go_simp
      exact hK.out _ _ (Kp.refl _) rfl
    case sb13 =>
      intro x u hg hd K hK
      have d11 : (x 11) = .bool true := And.left hd
      have d12 : (x 12) = .pointer (some ⟨bx, 5, none⟩) := And.left (And.right hd)
      clear hd
      have q0 := cell_kp hg HBX.out Z5.out
      refine ⟨?_⟩
      simp only [putsFrom, Act.put, List.setIfInBounds_toArray, List.set_cons_zero, List.set_cons_succ, Nat.reduceAdd, d11, d12] at hK ⊢
      go_simp
      exact hK.out _ _ (Kp.refl _) rfl
    case sb14 =>
      intro x u hg hd K hK
      have d11 : (x 11) = .bool true := And.left hd
      clear hd
      refine ⟨?_⟩
      simp only [putsFrom, Act.put, List.setIfInBounds_toArray, List.set_cons_zero, List.set_cons_succ, Nat.reduceAdd, d11] at hK ⊢
      go_simp
      exact hK.out _ _ (Kp.refl _) rfl
    case sb15 =>
      intro x u hg hd K hK
      have d11 : (x 11) = .bool true := And.left hd
      have d14 : (x 14) = .int .i64 a1 := And.left (And.right hd)
      clear hd
      refine ⟨?_⟩
      simp only [putsFrom, Act.put, List.setIfInBounds_toArray, List.set_cons_zero, List.set_cons_succ, Nat.reduceAdd, d11, d14] at hK ⊢
      go_simp
      go_at_call 18
      have hc := spot_b a1 u
      refine hc.mono ?_
      clear hc
      rintro e u' ⟨rfl, rfl⟩
      dsimp only
      exact hK.out _ _ (Kp.refl _) rfl
    case sb16 =>
      intro x u hg hd K hK
      have d11 : (x 11) = .bool true := And.left hd
      have d13 : (x 13) = .int .i64 (bits8 a1) := And.left (And.right hd)
      have d15 : (x 15) = .int .i64 (bits8 a1) := And.left (And.right (And.right hd))
      clear hd
      refine ⟨?_⟩
      simp only [putsFrom, Act.put, List.setIfInBounds_toArray, List.set_cons_zero, List.set_cons_succ, Nat.reduceAdd, d11, d13, d15] at hK ⊢
      go_simp
      exact hK.out _ _ (Kp.refl _) rfl
    case sb17 =>
      intro x u hg hd K hK
      have d11 : (x 11) = .bool true := And.left hd
      have d16 : (x 16) = .bool true := And.left (And.right hd)
      clear hd
      refine ⟨?_⟩
      simp only [putsFrom, Act.put, List.setIfInBounds_toArray, List.set_cons_zero, List.set_cons_succ, Nat.reduceAdd, d11, d16] at hK ⊢
      go_simp
      exact hK.out _ _ (Kp.refl _) rfl
    case sb18 =>
      intro x u hg hd K hK
      have d17 : (x 17) = .bool true := And.left hd
      clear hd
      refine ⟨?_⟩
      simp only [putsFrom, Act.put, List.setIfInBounds_toArray, List.set_cons_zero, List.set_cons_succ, Nat.reduceAdd, d17] at hK ⊢
      go_simp
      exact hK.out _ _ (Kp.refl _) rfl
    case sb19 =>
      intro x u hg hd K hK
      have d18 : (x 18) = .bool true := And.left hd
      clear hd
      refine ⟨?_⟩
      simp only [putsFrom, Act.put, List.setIfInBounds_toArray, List.set_cons_zero, List.set_cons_succ, Nat.reduceAdd, d18] at hK ⊢
      go_simp
      exact hK.out _ _ (Kp.refl _) rfl
    case sb20 =>
      intro x u hg hd K hK
      have d18 : (x 18) = .bool true := And.left hd
      have d19 : (x 19) = .slice (some ⟨tb, to, none⟩) 1 c4 := And.left (And.right hd)
      clear hd
      refine ⟨?_⟩
      simp only [putsFrom, Act.put, List.setIfInBounds_toArray, List.set_cons_zero, List.set_cons_succ, Nat.reduceAdd, d18, d19] at hK ⊢
      go_simp
      exact hK.out _ _ (Kp.refl _) rfl
    case sb21 =>
      intro x u hg hd K hK
      have d18 : (x 18) = .bool true := And.left hd
      have d20 : (x 20) = .int .i64 1 := And.left (And.right hd)
      clear hd
      refine ⟨?_⟩
      simp only [putsFrom, Act.put, List.setIfInBounds_toArray, List.set_cons_zero, List.set_cons_succ, Nat.reduceAdd, d18, d20] at hK ⊢
      go_simp
      exact hK.out _ _ (Kp.refl _) rfl
    case sb22 =>
      intro x u hg hd K hK
      have d18 : (x 18) = .bool true := And.left hd
      have d21 : (x 21) = .bool true := And.left (And.right hd)
      clear hd
      refine ⟨?_⟩
      simp only [putsFrom, Act.put, List.setIfInBounds_toArray, List.set_cons_zero, List.set_cons_succ, Nat.reduceAdd, d18, d21] at hK ⊢
      go_simp
      exact hK.out _ _ (Kp.refl _) rfl
    case sb23 =>
      intro x u hg hd K hK
      have d22 : (x 22) = .bool true := And.left hd
      clear hd
      refine ⟨?_⟩
      simp only [putsFrom, Act.put, List.setIfInBounds_toArray, List.set_cons_zero, List.set_cons_succ, Nat.reduceAdd, d22] at hK ⊢
      go_simp
      exact hK.out _ _ (Kp.refl _) rfl
    case sb24 =>
      intro x u hg hd K hK
      have d23 : (x 23) = .bool true := And.left hd
      clear hd
      refine ⟨?_⟩
      simp only [putsFrom, Act.put, List.setIfInBounds_toArray, List.set_cons_zero, List.set_cons_succ, Nat.reduceAdd, d23] at hK ⊢
      go_simp
      exact hK.out _ _ (Kp.refl _) rfl
    case sb25 =>
      intro x u hg hd K hK
      have d23 : (x 23) = .bool true := And.left hd
      have d24 : (x 24) = .slice (some ⟨tb, to, none⟩) 1 c4 := And.left (And.right hd)
      clear hd
      refine ⟨?_⟩
      simp only [putsFrom, Act.put, List.setIfInBounds_toArray, List.set_cons_zero, List.set_cons_succ, Nat.reduceAdd, d23, d24] at hK ⊢
      go_simp
      exact hK.out _ _ (Kp.refl _) rfl
    case sb26 =>
      intro x u hg hd K hK
      have d23 : (x 23) = .bool true := And.left hd
      have d25 : (x 25) = .pointer (some ⟨tb, to, none⟩) := And.left (And.right hd)
      clear hd
      refine ⟨?_⟩
      simp only [putsFrom, Act.put, List.setIfInBounds_toArray, List.set_cons_zero, List.set_cons_succ, Nat.reduceAdd, d23, d25] at hK ⊢
      go_simp
      exact hK.out _ _ (Kp.refl _) rfl
    case sb27 =>
      intro x u hg hd K hK
      have d23 : (x 23) = .bool true := And.left hd
      have d26 : (x 26) = .pointer (some ⟨tb, to, none⟩) := And.left (And.right hd)
      clear hd
      have q0 := cell_kp hg HTB.out Y0.out
      refine ⟨?_⟩
      simp only [putsFrom, Act.put, List.setIfInBounds_toArray, List.set_cons_zero, List.set_cons_succ, Nat.reduceAdd, d23, d26] at hK ⊢
      go_simp
      exact hK.out _ _ (Kp.refl _) rfl
    case sb28 =>
      intro x u hg hd K hK
      have d23 : (x 23) = .bool true := And.left hd
      have d27 : (x 27) = .int .i64 7 := And.left (And.right hd)
      clear hd
      refine ⟨?_⟩
      simp only [putsFrom, Act.put, List.setIfInBounds_toArray, List.set_cons_zero, List.set_cons_succ, Nat.reduceAdd, d23, d27] at hK ⊢
      go_simp
      exact hK.out _ _ (Kp.refl _) rfl
    case sb29 =>
      intro x u hg hd K hK
      have d23 : (x 23) = .bool true := And.left hd
      have d28 : (x 28) = .bool true := And.left (And.right hd)
      clear hd
      refine ⟨?_⟩
      simp only [putsFrom, Act.put, List.setIfInBounds_toArray, List.set_cons_zero, List.set_cons_succ, Nat.reduceAdd, d23, d28] at hK ⊢
      go_simp
      exact hK.out _ _ (Kp.refl _) rfl
    case sb30 =>
      intro x u hg hd K hK
      have d29 : (x 29) = .bool true := And.left hd
      clear hd
      refine ⟨?_⟩
      simp only [putsFrom, Act.put, List.setIfInBounds_toArray, List.set_cons_zero, List.set_cons_succ, Nat.reduceAdd, d29] at hK ⊢
      go_simp
      exact hK.out _ _ (Kp.refl _) rfl
    case sb31 =>
      intro x u hg hd K hK
      have d30 : (x 30) = .bool true := And.left hd
      clear hd
      refine ⟨?_⟩
      simp only [putsFrom, Act.put, List.setIfInBounds_toArray, List.set_cons_zero, List.set_cons_succ, Nat.reduceAdd, d30] at hK ⊢
      go_simp
      exact hK.out _ _ (Kp.refl _) rfl
    case sb32 =>
      intro x u hg hd K hK
      have d30 : (x 30) = .bool true := And.left hd
      have d31 : (x 31) = .slice (some ⟨tb, to, none⟩) 1 c4 := And.left (And.right hd)
      clear hd
      refine ⟨?_⟩
      simp only [putsFrom, Act.put, List.setIfInBounds_toArray, List.set_cons_zero, List.set_cons_succ, Nat.reduceAdd, d30, d31] at hK ⊢
      go_simp
      exact hK.out _ _ (Kp.refl _) rfl
    case sb33 =>
      intro x u hg hd K hK
      have d30 : (x 30) = .bool true := And.left hd
      have d32 : (x 32) = .pointer (some ⟨tb, to, none⟩) := And.left (And.right hd)
      clear hd
      refine ⟨?_⟩
      simp only [putsFrom, Act.put, List.setIfInBounds_toArray, List.set_cons_zero, List.set_cons_succ, Nat.reduceAdd, d30, d32] at hK ⊢
      go_simp
      exact hK.out _ _ (Kp.refl _) rfl
    case sb34 =>
      intro x u hg hd K hK
      have d30 : (x 30) = .bool true := And.left hd
      have d33 : (x 33) = .pointer (some ⟨tb, to + 1, none⟩) := And.left (And.right hd)
      clear hd
      have q0 := cell_kp hg HTB.out Y1.out
      refine ⟨?_⟩
      simp only [putsFrom, Act.put, List.setIfInBounds_toArray, List.set_cons_zero, List.set_cons_succ, Nat.reduceAdd, d30, d33] at hK ⊢
      go_simp
      exact hK.out _ _ (Kp.refl _) rfl
    case sb35 =>
      intro x u hg hd K hK
      have d30 : (x 30) = .bool true := And.left hd
      have d34 : (x 34) = .int .i64 3 := And.left (And.right hd)
      clear hd
      refine ⟨?_⟩
      simp only [putsFrom, Act.put, List.setIfInBounds_toArray, List.set_cons_zero, List.set_cons_succ, Nat.reduceAdd, d30, d34] at hK ⊢
      go_simp
      exact hK.out _ _ (Kp.refl _) rfl
    case sb36 =>
      intro x u hg hd K hK
      have d30 : (x 30) = .bool true := And.left hd
      have d35 : (x 35) = .bool true := And.left (And.right hd)
      clear hd
      refine ⟨?_⟩
      simp only [putsFrom, Act.put, List.setIfInBounds_toArray, List.set_cons_zero, List.set_cons_succ, Nat.reduceAdd, d30, d35] at hK ⊢
      go_simp
      exact hK.out _ _ (Kp.refl _) rfl
    case sb37 =>
      intro x u hg hd K hK
      have d36 : (x 36) = .bool true := And.left hd
      clear hd
      refine ⟨?_⟩
      simp only [putsFrom, Act.put, List.setIfInBounds_toArray, List.set_cons_zero, List.set_cons_succ, Nat.reduceAdd, d36] at hK ⊢
      go_simp
      exact hK.out _ _ (Kp.refl _) rfl
    intro x u hg he
    have d0 : (x 0) = .int .i64 0 := And.left he
    have d1 : (x 1) = .bool true := And.left (And.right he)
    have d2 : (x 2) = .bool true := And.left (And.right (And.right he))
    have d3 : (x 3) = .int .i64 17 := And.left (And.right (And.right (And.right he)))
    have d4 : (x 4) = .bool true := And.left (And.right (And.right (And.right (And.right he))))
    have d5 : (x 5) = .bool true := And.left (And.right (And.right (And.right (And.right (And.right he)))))
    have d6 : (x 6) = .bool true := And.left (And.right (And.right (And.right (And.right (And.right (And.right he))))))
    have d7 : (x 7) = .pointer (some ⟨bx, 4, none⟩) := And.left (And.right (And.right (And.right (And.right (And.right (And.right (And.right he)))))))
    have d8 : (x 8) = .int .i64 3 := And.left (And.right (And.right (And.right (And.right (And.right (And.right (And.right (And.right he))))))))
    have d9 : (x 9) = .bool true := And.left (And.right (And.right (And.right (And.right (And.right (And.right (And.right (And.right (And.right he)))))))))
    have d10 : (x 10) = .bool true := And.left (And.right (And.right (And.right (And.right (And.right (And.right (And.right (And.right (And.right (And.right he))))))))))
    have d11 : (x 11) = .bool true := And.left (And.right (And.right (And.right (And.right (And.right (And.right (And.right (And.right (And.right (And.right (And.right he)))))))))))
    have d12 : (x 12) = .pointer (some ⟨bx, 5, none⟩) := And.left (And.right (And.right (And.right (And.right (And.right (And.right (And.right (And.right (And.right (And.right (And.right (And.right he))))))))))))
    have d13 : (x 13) = .int .i64 (bits8 a1) := And.left (And.right (And.right (And.right (And.right (And.right (And.right (And.right (And.right (And.right (And.right (And.right (And.right (And.right he)))))))))))))
    have d14 : (x 14) = .int .i64 a1 := And.left (And.right (And.right (And.right (And.right (And.right (And.right (And.right (And.right (And.right (And.right (And.right (And.right (And.right (And.right he))))))))))))))
    have d15 : (x 15) = .int .i64 (bits8 a1) := And.left (And.right (And.right (And.right (And.right (And.right (And.right (And.right (And.right (And.right (And.right (And.right (And.right (And.right (And.right (And.right he)))))))))))))))
    have d16 : (x 16) = .bool true := And.left (And.right (And.right (And.right (And.right (And.right (And.right (And.right (And.right (And.right (And.right (And.right (And.right (And.right (And.right (And.right (And.right he))))))))))))))))
    have d17 : (x 17) = .bool true := And.left (And.right (And.right (And.right (And.right (And.right (And.right (And.right (And.right (And.right (And.right (And.right (And.right (And.right (And.right (And.right (And.right (And.right he)))))))))))))))))
    have d18 : (x 18) = .bool true := And.left (And.right (And.right (And.right (And.right (And.right (And.right (And.right (And.right (And.right (And.right (And.right (And.right (And.right (And.right (And.right (And.right (And.right (And.right he))))))))))))))))))
    have d19 : (x 19) = .slice (some ⟨tb, to, none⟩) 1 c4 := And.left (And.right (And.right (And.right (And.right (And.right (And.right (And.right (And.right (And.right (And.right (And.right (And.right (And.right (And.right (And.right (And.right (And.right (And.right (And.right he)))))))))))))))))))
    have d20 : (x 20) = .int .i64 1 := And.left (And.right (And.right (And.right (And.right (And.right (And.right (And.right (And.right (And.right (And.right (And.right (And.right (And.right (And.right (And.right (And.right (And.right (And.right (And.right (And.right he))))))))))))))))))))
    have d21 : (x 21) = .bool true := And.left (And.right (And.right (And.right (And.right (And.right (And.right (And.right (And.right (And.right (And.right (And.right (And.right (And.right (And.right (And.right (And.right (And.right (And.right (And.right (And.right (And.right he)))))))))))))))))))))
    have d22 : (x 22) = .bool true := And.left (And.right (And.right (And.right (And.right (And.right (And.right (And.right (And.right (And.right (And.right (And.right (And.right (And.right (And.right (And.right (And.right (And.right (And.right (And.right (And.right (And.right (And.right he))))))))))))))))))))))
    have d23 : (x 23) = .bool true := And.left (And.right (And.right (And.right (And.right (And.right (And.right (And.right (And.right (And.right (And.right (And.right (And.right (And.right (And.right (And.right (And.right (And.right (And.right (And.right (And.right (And.right (And.right (And.right he)))))))))))))))))))))))
    have d24 : (x 24) = .slice (some ⟨tb, to, none⟩) 1 c4 := And.left (And.right (And.right (And.right (And.right (And.right (And.right (And.right (And.right (And.right (And.right (And.right (And.right (And.right (And.right (And.right (And.right (And.right (And.right (And.right (And.right (And.right (And.right (And.right (And.right he))))))))))))))))))))))))
    have d25 : (x 25) = .pointer (some ⟨tb, to, none⟩) := And.left (And.right (And.right (And.right (And.right (And.right (And.right (And.right (And.right (And.right (And.right (And.right (And.right (And.right (And.right (And.right (And.right (And.right (And.right (And.right (And.right (And.right (And.right (And.right (And.right (And.right he)))))))))))))))))))))))))
    have d26 : (x 26) = .pointer (some ⟨tb, to, none⟩) := And.left (And.right (And.right (And.right (And.right (And.right (And.right (And.right (And.right (And.right (And.right (And.right (And.right (And.right (And.right (And.right (And.right (And.right (And.right (And.right (And.right (And.right (And.right (And.right (And.right (And.right (And.right he))))))))))))))))))))))))))
    have d27 : (x 27) = .int .i64 7 := And.left (And.right (And.right (And.right (And.right (And.right (And.right (And.right (And.right (And.right (And.right (And.right (And.right (And.right (And.right (And.right (And.right (And.right (And.right (And.right (And.right (And.right (And.right (And.right (And.right (And.right (And.right (And.right he)))))))))))))))))))))))))))
    have d28 : (x 28) = .bool true := And.left (And.right (And.right (And.right (And.right (And.right (And.right (And.right (And.right (And.right (And.right (And.right (And.right (And.right (And.right (And.right (And.right (And.right (And.right (And.right (And.right (And.right (And.right (And.right (And.right (And.right (And.right (And.right (And.right he))))))))))))))))))))))))))))
    have d29 : (x 29) = .bool true := And.left (And.right (And.right (And.right (And.right (And.right (And.right (And.right (And.right (And.right (And.right (And.right (And.right (And.right (And.right (And.right (And.right (And.right (And.right (And.right (And.right (And.right (And.right (And.right (And.right (And.right (And.right (And.right (And.right (And.right he)))))))))))))))))))))))))))))
    have d30 : (x 30) = .bool true := And.left (And.right (And.right (And.right (And.right (And.right (And.right (And.right (And.right (And.right (And.right (And.right (And.right (And.right (And.right (And.right (And.right (And.right (And.right (And.right (And.right (And.right (And.right (And.right (And.right (And.right (And.right (And.right (And.right (And.right (And.right he))))))))))))))))))))))))))))))
    have d31 : (x 31) = .slice (some ⟨tb, to, none⟩) 1 c4 := And.left (And.right (And.right (And.right (And.right (And.right (And.right (And.right (And.right (And.right (And.right (And.right (And.right (And.right (And.right (And.right (And.right (And.right (And.right (And.right (And.right (And.right (And.right (And.right (And.right (And.right (And.right (And.right (And.right (And.right (And.right (And.right he)))))))))))))))))))))))))))))))
    have d32 : (x 32) = .pointer (some ⟨tb, to, none⟩) := And.left (And.right (And.right (And.right (And.right (And.right (And.right (And.right (And.right (And.right (And.right (And.right (And.right (And.right (And.right (And.right (And.right (And.right (And.right (And.right (And.right (And.right (And.right (And.right (And.right (And.right (And.right (And.right (And.right (And.right (And.right (And.right (And.right he))))))))))))))))))))))))))))))))
    have d33 : (x 33) = .pointer (some ⟨tb, to + 1, none⟩) := And.left (And.right (And.right (And.right (And.right (And.right (And.right (And.right (And.right (And.right (And.right (And.right (And.right (And.right (And.right (And.right (And.right (And.right (And.right (And.right (And.right (And.right (And.right (And.right (And.right (And.right (And.right (And.right (And.right (And.right (And.right (And.right (And.right (And.right he)))))))))))))))))))))))))))))))))
    have d34 : (x 34) = .int .i64 3 := And.left (And.right (And.right (And.right (And.right (And.right (And.right (And.right (And.right (And.right (And.right (And.right (And.right (And.right (And.right (And.right (And.right (And.right (And.right (And.right (And.right (And.right (And.right (And.right (And.right (And.right (And.right (And.right (And.right (And.right (And.right (And.right (And.right (And.right (And.right he))))))))))))))))))))))))))))))))))
    have d35 : (x 35) = .bool true := And.left (And.right (And.right (And.right (And.right (And.right (And.right (And.right (And.right (And.right (And.right (And.right (And.right (And.right (And.right (And.right (And.right (And.right (And.right (And.right (And.right (And.right (And.right (And.right (And.right (And.right (And.right (And.right (And.right (And.right (And.right (And.right (And.right (And.right (And.right (And.right he)))))))))))))))))))))))))))))))))))
    have d36 : (x 36) = .bool true := And.left (And.right (And.right (And.right (And.right (And.right (And.right (And.right (And.right (And.right (And.right (And.right (And.right (And.right (And.right (And.right (And.right (And.right (And.right (And.right (And.right (And.right (And.right (And.right (And.right (And.right (And.right (And.right (And.right (And.right (And.right (And.right (And.right (And.right (And.right (And.right (And.right he))))))))))))))))))))))))))))))))))))
    have d37 : (x 37) = .bool true := And.left (And.right (And.right (And.right (And.right (And.right (And.right (And.right (And.right (And.right (And.right (And.right (And.right (And.right (And.right (And.right (And.right (And.right (And.right (And.right (And.right (And.right (And.right (And.right (And.right (And.right (And.right (And.right (And.right (And.right (And.right (And.right (And.right (And.right (And.right (And.right (And.right (And.right he)))))))))))))))))))))))))))))))))))))
    clear he
    refine ⟨?_⟩
    simp only [putsFrom, Act.put, List.setIfInBounds_toArray, List.set_cons_zero, List.set_cons_succ, Nat.reduceAdd, d0, d1, d2, d3, d4, d5, d6, d7, d8, d9, d10, d11, d12, d13, d14, d15, d16, d17, d18, d19, d20, d21, d22, d23, d24, d25, d26, d27, d28, d29, d30, d31, d32, d33, d34, d35, d36, d37]
    clear d0 d1 d2 d3 d4 d5 d6 d7 d8 d9 d10 d11 d12 d13 d14 d15 d16 d17 d18 d19 d20 d21 d22 d23 d24 d25 d26 d27 d28 d29 d30 d31 d32 d33 d34 d35 d36 d37
    go_wp2
    exact bodyPost_ret (v := .bool true) (by simp [results, Try.results6, go_sem]) rfl ⟨rfl, HK.out.trans (HK3.out.trans (HK4.out.trans (HKW.out.trans (by assumption))))⟩
  · have t0 : (S.en != 0) = true := by simp [he]
    have HE := hid he
    clear he
    go_wp2_with fail
    refine (step_over _ _ _ (mOf S) ⟨2, 0, zV⟩ ((HSO.out.kp ((Kp.refl _).alloc _)).rdState HGR.out.fl (by have := HGR.out.pl; omega)).1 (ev_at _ 2 0 (ok_c (by decide) (by decide)) (ok_c (by decide) (by decide))) HE.out).mono ?_
    rintro e u3 ⟨rfl, hk3⟩
    have HK3 := hid (((Kp.refl _).alloc _).trans hk3)
    clear hk3
    go_wp2_with fail
    exact bodyPost_ret (v := .bool true) (by simp [results, Try.results6, go_sem]) rfl ⟨rfl, HK.out.trans (HK3.out.trans ((Kp.refl _).alloc _))⟩
/-! ### The row's step (the guide's frame, written by program) -/
set_option maxRecDepth 100000 in
theorem lifted (os : Os) (started : os.Started) (H : Type) (enc : TypeId × Value → H) :
    ReturnsInHanded {} Try.checked os 6 .any (Rows.panicsExitSpec.pre6 enc Try.prog Try.f6 Rows.panicsExitRow.domain false) (Rows.panicsExitSpec.post enc Try.prog Try.f6 false true false false) := by
  refine returnsInHanded_of_change_sized (C := Try.checked) own started (by kernel_rfl) Try.func6
    (ChangeSpec.witness6 (enc := enc) (C := Try.checked) false ⟨#[], #[.slice none 0 0, .int .i64 0], []⟩ 8 (by kernel_rfl) (by kernel_rfl) (by kernel_rfl) (by kernel_rfl)) ?_
  intro W base args ds gs before hval0 hW _ hsz0 _
  have hsz : (DataW.weightsEach Try.prog (Try.f6.params.toList ++ Rows.panicsExitSpec.plain.varTypes Try.prog) (ds ++ gs)).all (· ≤ reachBytes) = true := hsz0
  clear hsz0
  have hval : ∀ (j : Nat) t v, Try.f6.params[j]? = some t → args[j]? = some v → Value.okWide Try.prog W .any base t v := hval0
  have hW' := hW
  obtain ⟨p, q, hA0, hV, rfl, hfz, hnd⟩ := hW
  have hA : DataW.TrodAll enc Try.prog W 0 (fun _ => true) true Try.f6.params.toList args.toList ds p := hA0
  rw [Try.params6] at hA hval hsz
  obtain ⟨v0, vs0, d0, ds0, p0, q0, hargs, rfl, rfl, h0, r0⟩ := trodAll_cons hA
  obtain ⟨v1, vs1, d1, ds1, p1, q1, rfl, rfl, rfl, h1, r1⟩ := trodAll_cons r0
  obtain ⟨rfl, rfl, rfl⟩ := trodAll_nil r1
  obtain rfl : args = #[v0, v1] := by cases args; simp_all
  obtain ⟨rfl, rfl⟩ := trodVars_none hV
  have k0 := h0
  have lt0 : ∀ x ∈ p0, x.block < W.heap.size := by obtain ⟨m, hm⟩ := k0; exact DataW.trod_lt m _ _ _ hm
  have hz0 : ∀ n ∈ DataW.weights Try.prog 22 d0, n ≤ reachBytes := fun n hn => by
    have := List.all_eq_true.1 hsz _ (DataW.weights_mem_each (j := 0) rfl rfl n hn)
    simpa using this
  obtain ⟨a0, w0⟩ := open_events (hval 0 22 v0 rfl rfl) h0 hz0
  have k1 := h1
  have lt1 : ∀ x ∈ p1, x.block < W.heap.size := by obtain ⟨m, hm⟩ := k1; exact DataW.trod_lt m _ _ _ hm
  obtain ⟨a1, rfl, rfl, rfl, w1⟩ := open_int Try.underlying3 (hval 1 3 v1 rfl rfl) h1
  clear hA0 hval0
  simp only [List.append_nil] at hW'
  refine (walk v0 a0 a1 W w0 w1).mono fun e W' ⟨he, bel⟩ => ?_
  subst he
  exact ⟨_, rfl, _, _, _, [], _, [], hW', trodAll_mk1 (shut_bool Try.underlying4 _), (trodAll_cons_mk (Below.trod laidOut (by kernel_rfl) (of_decide_eq_true (by kernel_rfl)) k0 bel lt0) (trodAll_cons_mk (Below.trod laidOut (by kernel_rfl) (of_decide_eq_true (by kernel_rfl)) k1 bel lt1) trodAll_mk0)), rfl, Below.frame bel _, fun h => by cases h⟩

theorem over : Rows.panicsExitRow.holds Try.pinned (OpenSpec.ofChange Rows.panicsExitSpec) :=
  OpenClaim.holds_of_wide 6 Try.f6 rfl rfl rfl rfl rfl rfl rfl ⟨rfl, rfl, rfl, rfl, rfl⟩ rfl rfl rfl rfl rfl (by kernel_rfl) Try.func6 (by kernel_rfl)
    (of_decide_eq_true (by kernel_rfl)) (by unfold Func.isWrapper; rw [if_neg (of_decide_eq_false (by kernel_rfl))]; exact ⟨rfl, rfl⟩)
    (fun os started H enc _ => lifted os started H enc)

/-- THE STATEMENT. -/
theorem proved : Rows.PanicsExitSaid := over
#print axioms proved

end Go.Proofs.Ytfholconiofgoaa.panicsExit
