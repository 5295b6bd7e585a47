/-
  The law ValueAlike answers true for all values. No condition.
-/
import Derived.SizedLaws
import Derived.Test.YtffjfkmnlfndkaaRows
import Derived.Test.YtffjfkmnlfndkaaShown
import Derived.Test.YtffjfkmnlfndkaaRegion
namespace Go.Proofs.Ytffjfkmnlfndkaa.valueAlike
open Go.ChangeShapes Go.WideShapes Go.ChangeAt Go.RowKit
open Go.ChangeMaps (open_string shut_string)
set_option linter.unusedVariables false

theorem own : ownKnob Try.prog.godebug = none := by kernel_rfl
theorem laidOut : laidOutB Try.prog = true := by kernel_rfl


set_option maxRecDepth 20000 in
set_option maxHeartbeats 1000000 in
theorem walk (v0 : Value) (a0 : ValM) (v1 : Value) (a1 : ValM) (v2 : Value) (a2 : ValM) (w : World) (w0 : RdVal w v0 a0) (w1 : RdVal w v1 a1) (w2 : RdVal w v2 a2) :
    Calls Try.prog 10 #[v0, v1, v2] w fun e w' => e = .returned (.bool true) ∧ Kp w w' := by
  have R0 := hid w0; have R1 := hid w1; have R2 := hid w2
  obtain ⟨l0, rfl, _⟩ := w0
  obtain ⟨l1, rfl, _⟩ := w1
  obtain ⟨l2, rfl, _⟩ := w2
  have s0 := hid (same_refl a0)
  obtain ⟨p, hx⟩ : ∃ p, sameM a0 a1 = p := ⟨_, rfl⟩
  obtain ⟨q, hy⟩ : ∃ q, sameM a1 a2 = q := ⟨_, rfl⟩
  have s1 := hid hx
  have s2 := hid hy
  have s3 := hid ((same_symm a0 a1).trans hx)
  have s4 : Hid (p = true → q = true → sameM a0 a2 = true) := hid (fun h1 h2 => same_trans (hx.trans h1) (hy.trans h2))
  clear hx hy
  go_enter Try.func10, Try.ntmps10
  go_wp2_with fail
  have F := Held3.mk w a0 a1 a2 l0 l1 l2
  generalize (((w.alloc (.cells #[.int .i64 a0.k, .int .i64 a0.n, .string a0.s, l0] 53)).alloc (.cells #[.int .i64 a1.k, .int .i64 a1.n, .string a1.s, l1] 53)).alloc (.cells #[.int .i64 a2.k, .int .i64 a2.n, .string a2.s, l2] 53)) = W0 at F ⊢
  refine wp_region_kp [[], [0], [], [2], [1, 3], [], [5], [], [7], [6, 8], [4], [9]] (Held3 w a0 a1 a2 l0 l1 l2)
    [fun (y : Value) (u : World) => y = (.agg #[.int .i64 a0.k, .int .i64 a0.n, .string a0.s, l0] : Value),
     fun (y : Value) (u : World) => RdVal u y a0,
     fun (y : Value) (u : World) => y = (.agg #[.int .i64 a1.k, .int .i64 a1.n, .string a1.s, l1] : Value),
     fun (y : Value) (u : World) => RdVal u y a1,
     fun (y : Value) (u : World) => y = (.bool p : Value),
     fun (y : Value) (u : World) => y = (.agg #[.int .i64 a1.k, .int .i64 a1.n, .string a1.s, l1] : Value),
     fun (y : Value) (u : World) => RdVal u y a1,
     fun (y : Value) (u : World) => y = (.agg #[.int .i64 a2.k, .int .i64 a2.n, .string a2.s, l2] : Value),
     fun (y : Value) (u : World) => RdVal u y a2,
     fun (y : Value) (u : World) => y = (.bool q : Value),
     fun (y : Value) (u : World) => y = (.bool p : Value),
     fun (y : Value) (u : World) => y = (.bool q : Value)]
    (by kernel_rfl) (by kernel_rfl) (by kernel_rfl) (by kernel_rfl) (F.kp (Kp.refl _).drew) (fun _ _ hk h => h.kp hk) ⟨fun _ _ _ _ h => h, fun _ _ _ hk h => h.kp hk, fun _ _ _ _ h => h, fun _ _ _ hk h => h.kp hk, fun _ _ _ _ h => h, fun _ _ _ _ h => h, fun _ _ _ hk h => h.kp hk, fun _ _ _ _ h => h, fun _ _ _ hk h => h.kp hk, fun _ _ _ _ h => h, fun _ _ _ _ h => h, fun _ _ _ _ h => h, trivial⟩ ⟨?sb0, ?sb1, ?sb2, ?sb3, ?sb4, ?sb5, ?sb6, ?sb7, ?sb8, ?sb9, ?sb10, ?sb11, trivial⟩ ?hEb
  case sb0 =>
    intro x u hg hd K hK
    clear hd
    refine ⟨?_⟩
    simp only [putsFrom, Act.put, List.setIfInBounds_toArray, List.set_cons_zero, List.set_cons_succ, Nat.reduceAdd] at hK ⊢
    go_simp
    exact hK.out _ _ (Kp.refl _) rfl
  case sb1 =>
    intro x u hg hd K hK
    have d0 : (x 0) = .agg #[.int .i64 a0.k, .int .i64 a0.n, .string a0.s, l0] := And.left hd
    clear hd
    refine ⟨?_⟩
    simp only [putsFrom, Act.put, List.setIfInBounds_toArray, List.set_cons_zero, List.set_cons_succ, Nat.reduceAdd, d0] at hK ⊢
    go_simp
    go_at_call 29
    have hc := own_h hg R0
    refine hc.mono ?_
    clear hc
    rintro e u' ⟨v1, rfl, hr, hk⟩
    dsimp only
    exact hK.out _ _ hk hr
  case sb2 =>
    intro x u hg hd K hK
    clear hd
    refine ⟨?_⟩
    simp only [putsFrom, Act.put, List.setIfInBounds_toArray, List.set_cons_zero, List.set_cons_succ, Nat.reduceAdd] at hK ⊢
    go_simp
    exact hK.out _ _ (Kp.refl _) rfl
  case sb3 =>
    intro x u hg hd K hK
    have d2 : (x 2) = .agg #[.int .i64 a1.k, .int .i64 a1.n, .string a1.s, l1] := And.left hd
    clear hd
    refine ⟨?_⟩
    simp only [putsFrom, Act.put, List.setIfInBounds_toArray, List.set_cons_zero, List.set_cons_succ, Nat.reduceAdd, d2] at hK ⊢
    go_simp
    go_at_call 29
    have hc := own_h hg R1
    refine hc.mono ?_
    clear hc
    rintro e u' ⟨v1, rfl, hr, hk⟩
    dsimp only
    exact hK.out _ _ hk hr
  case sb4 =>
    intro x u hg hd K hK
    have d1 : RdVal u (x 1) a0 := And.left hd
    have d3 : RdVal u (x 3) a1 := And.left (And.right hd)
    clear hd
    refine ⟨?_⟩
    simp only [putsFrom, Act.put, List.setIfInBounds_toArray, List.set_cons_zero, List.set_cons_succ, Nat.reduceAdd] at hK ⊢
    go_simp
    go_at_call 30
    have hc := same_is d1 (Kp.refl _) d3 s1
    refine hc.mono ?_
    clear hc
    rintro e u' ⟨rfl, hk⟩
    dsimp only
    exact hK.out _ _ hk rfl
  case sb5 =>
    intro x u hg hd K hK
    clear hd
    refine ⟨?_⟩
    simp only [putsFrom, Act.put, List.setIfInBounds_toArray, List.set_cons_zero, List.set_cons_succ, Nat.reduceAdd] at hK ⊢
    go_simp
    exact hK.out _ _ (Kp.refl _) rfl
  case sb6 =>
    intro x u hg hd K hK
    have d5 : (x 5) = .agg #[.int .i64 a1.k, .int .i64 a1.n, .string a1.s, l1] := And.left hd
    clear hd
    refine ⟨?_⟩
    simp only [putsFrom, Act.put, List.setIfInBounds_toArray, List.set_cons_zero, List.set_cons_succ, Nat.reduceAdd, d5] at hK ⊢
    go_simp
    go_at_call 29
    have hc := own_h hg R1
    refine hc.mono ?_
    clear hc
    rintro e u' ⟨v1, rfl, hr, hk⟩
    dsimp only
    exact hK.out _ _ hk hr
  case sb7 =>
    intro x u hg hd K hK
    clear hd
    refine ⟨?_⟩
    simp only [putsFrom, Act.put, List.setIfInBounds_toArray, List.set_cons_zero, List.set_cons_succ, Nat.reduceAdd] at hK ⊢
    go_simp
    exact hK.out _ _ (Kp.refl _) rfl
  case sb8 =>
    intro x u hg hd K hK
    have d7 : (x 7) = .agg #[.int .i64 a2.k, .int .i64 a2.n, .string a2.s, l2] := And.left hd
    clear hd
    refine ⟨?_⟩
    simp only [putsFrom, Act.put, List.setIfInBounds_toArray, List.set_cons_zero, List.set_cons_succ, Nat.reduceAdd, d7] at hK ⊢
    go_simp
    go_at_call 29
    have hc := own_h hg R2
    refine hc.mono ?_
    clear hc
    rintro e u' ⟨v1, rfl, hr, hk⟩
    dsimp only
    exact hK.out _ _ hk hr
  case sb9 =>
    intro x u hg hd K hK
    have d6 : RdVal u (x 6) a1 := And.left hd
    have d8 : RdVal u (x 8) a2 := And.left (And.right hd)
    clear hd
    refine ⟨?_⟩
    simp only [putsFrom, Act.put, List.setIfInBounds_toArray, List.set_cons_zero, List.set_cons_succ, Nat.reduceAdd] at hK ⊢
    go_simp
    go_at_call 30
    have hc := same_is d6 (Kp.refl _) d8 s2
    refine hc.mono ?_
    clear hc
    rintro e u' ⟨rfl, hk⟩
    dsimp only
    exact hK.out _ _ hk rfl
  case sb10 =>
    intro x u hg hd K hK
    have d4 : (x 4) = .bool p := And.left hd
    clear hd
    refine ⟨?_⟩
    simp only [putsFrom, Act.put, List.setIfInBounds_toArray, List.set_cons_zero, List.set_cons_succ, Nat.reduceAdd, d4] at hK ⊢
    go_simp
    exact hK.out _ _ (Kp.refl _) rfl
  case sb11 =>
    intro x u hg hd K hK
    have d9 : (x 9) = .bool q := And.left hd
    clear hd
    refine ⟨?_⟩
    simp only [putsFrom, Act.put, List.setIfInBounds_toArray, List.set_cons_zero, List.set_cons_succ, Nat.reduceAdd, d9] at hK ⊢
    go_simp
    exact hK.out _ _ (Kp.refl _) rfl
  intro x u hg he
  have d0 : (x 0) = .agg #[.int .i64 a0.k, .int .i64 a0.n, .string a0.s, l0] := And.left he
  have d1 : RdVal u (x 1) a0 := And.left (And.right he)
  have d2 : (x 2) = .agg #[.int .i64 a1.k, .int .i64 a1.n, .string a1.s, l1] := And.left (And.right (And.right he))
  have d3 : RdVal u (x 3) a1 := And.left (And.right (And.right (And.right he)))
  have d4 : (x 4) = .bool p := And.left (And.right (And.right (And.right (And.right he))))
  have d5 : (x 5) = .agg #[.int .i64 a1.k, .int .i64 a1.n, .string a1.s, l1] := And.left (And.right (And.right (And.right (And.right (And.right he)))))
  have d6 : RdVal u (x 6) a1 := And.left (And.right (And.right (And.right (And.right (And.right (And.right he))))))
  have d7 : (x 7) = .agg #[.int .i64 a2.k, .int .i64 a2.n, .string a2.s, l2] := And.left (And.right (And.right (And.right (And.right (And.right (And.right (And.right he)))))))
  have d8 : RdVal u (x 8) a2 := And.left (And.right (And.right (And.right (And.right (And.right (And.right (And.right (And.right he))))))))
  have d9 : (x 9) = .bool q := And.left (And.right (And.right (And.right (And.right (And.right (And.right (And.right (And.right (And.right he)))))))))
  have d10 : (x 10) = .bool p := And.left (And.right (And.right (And.right (And.right (And.right (And.right (And.right (And.right (And.right (And.right he))))))))))
  have d11 : (x 11) = .bool q := And.left (And.right (And.right (And.right (And.right (And.right (And.right (And.right (And.right (And.right (And.right (And.right he)))))))))))
  clear he
  clear d1 d3 d6 d8
  refine ⟨?_⟩
  simp only [putsFrom, Act.put, List.setIfInBounds_toArray, List.set_cons_zero, List.set_cons_succ, Nat.reduceAdd, d0, d2, d4, d5, d7, d9, d10, d11]
  clear d0 d2 d4 d5 d7 d9 d10 d11
  go_wp2_with fail
  have H1 := hg
  clear hg
  by_cases hpq : p = true ∧ q = true
  · obtain ⟨rfl, rfl⟩ := hpq
    have s5 := hid (s4.out rfl rfl)
    clear s4
    refine wp_region_kp [[], [0], [1], [1, 2], [1], [1, 4], [1, 3, 5], [1, 6], [7], [8], [8], [8, 10], [8], [8, 12], [8, 11, 13], [8, 9, 14], [8, 15], [16], [17], [17, 18], [17, 19], [20], [20, 21], [17, 20, 22], [17, 23], [24], [24, 25], [24], [24, 27], [24, 26, 28], [17, 24, 29], [17, 30], [31]] (Held3 w a0 a1 a2 l0 l1 l2)
      [fun (y : Value) (u : World) => y = (.bool true : Value),
       fun (y : Value) (u : World) => y = (.bool true : Value),
       fun (y : Value) (u : World) => y = (.agg #[.int .i64 a0.k, .int .i64 a0.n, .string a0.s, l0] : Value),
       fun (y : Value) (u : World) => RdVal u y a0,
       fun (y : Value) (u : World) => y = (.agg #[.int .i64 a0.k, .int .i64 a0.n, .string a0.s, l0] : Value),
       fun (y : Value) (u : World) => RdVal u y a0,
       fun (y : Value) (u : World) => y = (.bool true : Value),
       fun (y : Value) (u : World) => y = (.bool true : Value),
       fun (y : Value) (u : World) => y = (.bool true : Value),
       fun (y : Value) (u : World) => y = (.bool true : Value),
       fun (y : Value) (u : World) => y = (.agg #[.int .i64 a1.k, .int .i64 a1.n, .string a1.s, l1] : Value),
       fun (y : Value) (u : World) => RdVal u y a1,
       fun (y : Value) (u : World) => y = (.agg #[.int .i64 a0.k, .int .i64 a0.n, .string a0.s, l0] : Value),
       fun (y : Value) (u : World) => RdVal u y a0,
       fun (y : Value) (u : World) => y = (.bool true : Value),
       fun (y : Value) (u : World) => y = (.bool true : Value),
       fun (y : Value) (u : World) => y = (.bool true : Value),
       fun (y : Value) (u : World) => y = (.bool true : Value),
       fun (y : Value) (u : World) => y = (.bool true : Value),
       fun (y : Value) (u : World) => y = (.bool false : Value),
       fun (y : Value) (u : World) => y = (.bool false : Value),
       fun (y : Value) (u : World) => y = (.bool true : Value),
       fun (y : Value) (u : World) => y = (.bool false : Value),
       fun (y : Value) (u : World) => y = (.bool false : Value),
       fun (y : Value) (u : World) => y = (.bool false : Value),
       fun (y : Value) (u : World) => y = (.agg #[.int .i64 a0.k, .int .i64 a0.n, .string a0.s, l0] : Value),
       fun (y : Value) (u : World) => RdVal u y a0,
       fun (y : Value) (u : World) => y = (.agg #[.int .i64 a2.k, .int .i64 a2.n, .string a2.s, l2] : Value),
       fun (y : Value) (u : World) => RdVal u y a2,
       fun (y : Value) (u : World) => y = (.bool true : Value),
       fun (y : Value) (u : World) => y = (.bool true : Value),
       fun (y : Value) (u : World) => y = (.bool true : Value),
       fun (y : Value) (u : World) => y = (.bool true : Value)]
      (by kernel_rfl) (by kernel_rfl) (by kernel_rfl) (by kernel_rfl) (H1.kp (Kp.refl _).drew) (fun _ _ hk h => h.kp hk) ⟨fun _ _ _ _ h => h, fun _ _ _ _ h => h, fun _ _ _ _ h => h, fun _ _ _ hk h => h.kp hk, fun _ _ _ _ h => h, fun _ _ _ hk h => h.kp hk, fun _ _ _ _ h => h, fun _ _ _ _ h => h, fun _ _ _ _ h => h, fun _ _ _ _ h => h, fun _ _ _ _ h => h, fun _ _ _ hk h => h.kp hk, fun _ _ _ _ h => h, fun _ _ _ hk h => h.kp hk, fun _ _ _ _ h => h, fun _ _ _ _ h => h, fun _ _ _ _ h => h, fun _ _ _ _ h => h, fun _ _ _ _ h => h, fun _ _ _ _ h => h, fun _ _ _ _ h => h, fun _ _ _ _ h => h, fun _ _ _ _ h => h, fun _ _ _ _ h => h, fun _ _ _ _ h => h, fun _ _ _ _ h => h, fun _ _ _ hk h => h.kp hk, fun _ _ _ _ h => h, fun _ _ _ hk h => h.kp hk, fun _ _ _ _ h => h, fun _ _ _ _ h => h, fun _ _ _ _ h => h, fun _ _ _ _ h => h, trivial⟩ ⟨?sc0, ?sc1, ?sc2, ?sc3, ?sc4, ?sc5, ?sc6, ?sc7, ?sc8, ?sc9, ?sc10, ?sc11, ?sc12, ?sc13, ?sc14, ?sc15, ?sc16, ?sc17, ?sc18, ?sc19, ?sc20, ?sc21, ?sc22, ?sc23, ?sc24, ?sc25, ?sc26, ?sc27, ?sc28, ?sc29, ?sc30, ?sc31, ?sc32, trivial⟩ ?hEc
    case sc0 =>
      intro x u hg hd K hK
      clear hd
      refine ⟨?_⟩
      simp only [putsFrom, Act.put, List.setIfInBounds_toArray, List.set_cons_zero, List.set_cons_succ, Nat.reduceAdd] at hK ⊢
      go_simp
      go_at_call 31
      have hc := shown_any u
      refine hc.mono ?_
      clear hc
      rintro e u' ⟨rfl, hk⟩
      dsimp only
      exact hK.out _ _ hk rfl
    case sc1 =>
      intro x u hg hd K hK
      have d0 : (x 0) = .bool true := And.left hd
      clear hd
      refine ⟨?_⟩
      simp only [putsFrom, Act.put, List.setIfInBounds_toArray, List.set_cons_zero, List.set_cons_succ, Nat.reduceAdd, d0] at hK ⊢
      go_simp
      exact hK.out _ _ (Kp.refl _) rfl
    case sc2 =>
      intro x u hg hd K hK
      have d1 : (x 1) = .bool true := And.left hd
      clear hd
      refine ⟨?_⟩
      simp only [putsFrom, Act.put, List.setIfInBounds_toArray, List.set_cons_zero, List.set_cons_succ, Nat.reduceAdd, d1] at hK ⊢
      go_simp
      exact hK.out _ _ (Kp.refl _) rfl
    case sc3 =>
      intro x u hg hd K hK
      have d1 : (x 1) = .bool true := And.left hd
      have d2 : (x 2) = .agg #[.int .i64 a0.k, .int .i64 a0.n, .string a0.s, l0] := And.left (And.right hd)
      clear hd
      refine ⟨?_⟩
      simp only [putsFrom, Act.put, List.setIfInBounds_toArray, List.set_cons_zero, List.set_cons_succ, Nat.reduceAdd, d1, d2] at hK ⊢
      go_simp
      go_at_call 29
      have hc := own_h hg R0
      refine hc.mono ?_
      clear hc
      rintro e u' ⟨v1, rfl, hr, hk⟩
      dsimp only
      exact hK.out _ _ hk hr
    case sc4 =>
      intro x u hg hd K hK
      have d1 : (x 1) = .bool true := And.left hd
      clear hd
      refine ⟨?_⟩
      simp only [putsFrom, Act.put, List.setIfInBounds_toArray, List.set_cons_zero, List.set_cons_succ, Nat.reduceAdd, d1] at hK ⊢
      go_simp
      exact hK.out _ _ (Kp.refl _) rfl
    case sc5 =>
      intro x u hg hd K hK
      have d1 : (x 1) = .bool true := And.left hd
      have d4 : (x 4) = .agg #[.int .i64 a0.k, .int .i64 a0.n, .string a0.s, l0] := And.left (And.right hd)
      clear hd
      refine ⟨?_⟩
      simp only [putsFrom, Act.put, List.setIfInBounds_toArray, List.set_cons_zero, List.set_cons_succ, Nat.reduceAdd, d1, d4] at hK ⊢
      go_simp
      go_at_call 29
      have hc := own_h hg R0
      refine hc.mono ?_
      clear hc
      rintro e u' ⟨v1, rfl, hr, hk⟩
      dsimp only
      exact hK.out _ _ hk hr
    case sc6 =>
      intro x u hg hd K hK
      have d1 : (x 1) = .bool true := And.left hd
      have d3 : RdVal u (x 3) a0 := And.left (And.right hd)
      have d5 : RdVal u (x 5) a0 := And.left (And.right (And.right hd))
      clear hd
      refine ⟨?_⟩
      simp only [putsFrom, Act.put, List.setIfInBounds_toArray, List.set_cons_zero, List.set_cons_succ, Nat.reduceAdd, d1] at hK ⊢
      go_simp
      go_at_call 30
      have hc := same_is d3 (Kp.refl _) d5 s0
      refine hc.mono ?_
      clear hc
      rintro e u' ⟨rfl, hk⟩
      dsimp only
      exact hK.out _ _ hk rfl
    case sc7 =>
      intro x u hg hd K hK
      have d1 : (x 1) = .bool true := And.left hd
      have d6 : (x 6) = .bool true := And.left (And.right hd)
      clear hd
      refine ⟨?_⟩
      simp only [putsFrom, Act.put, List.setIfInBounds_toArray, List.set_cons_zero, List.set_cons_succ, Nat.reduceAdd, d1, d6] at hK ⊢
      go_simp
      exact hK.out _ _ (Kp.refl _) rfl
    case sc8 =>
      intro x u hg hd K hK
      have d7 : (x 7) = .bool true := And.left hd
      clear hd
      refine ⟨?_⟩
      simp only [putsFrom, Act.put, List.setIfInBounds_toArray, List.set_cons_zero, List.set_cons_succ, Nat.reduceAdd, d7] at hK ⊢
      go_simp
      exact hK.out _ _ (Kp.refl _) rfl
    case sc9 =>
      intro x u hg hd K hK
      have d8 : (x 8) = .bool true := And.left hd
      clear hd
      refine ⟨?_⟩
      simp only [putsFrom, Act.put, List.setIfInBounds_toArray, List.set_cons_zero, List.set_cons_succ, Nat.reduceAdd, d8] at hK ⊢
      go_simp
      exact hK.out _ _ (Kp.refl _) rfl
    case sc10 =>
      intro x u hg hd K hK
      have d8 : (x 8) = .bool true := And.left hd
      clear hd
      refine ⟨?_⟩
      simp only [putsFrom, Act.put, List.setIfInBounds_toArray, List.set_cons_zero, List.set_cons_succ, Nat.reduceAdd, d8] at hK ⊢
      go_simp
      exact hK.out _ _ (Kp.refl _) rfl
    case sc11 =>
      intro x u hg hd K hK
      have d8 : (x 8) = .bool true := And.left hd
      have d10 : (x 10) = .agg #[.int .i64 a1.k, .int .i64 a1.n, .string a1.s, l1] := And.left (And.right hd)
      clear hd
      refine ⟨?_⟩
      simp only [putsFrom, Act.put, List.setIfInBounds_toArray, List.set_cons_zero, List.set_cons_succ, Nat.reduceAdd, d8, d10] at hK ⊢
      go_simp
      go_at_call 29
      have hc := own_h hg R1
      refine hc.mono ?_
      clear hc
      rintro e u' ⟨v1, rfl, hr, hk⟩
      dsimp only
      exact hK.out _ _ hk hr
    case sc12 =>
      intro x u hg hd K hK
      have d8 : (x 8) = .bool true := And.left hd
      clear hd
      refine ⟨?_⟩
      simp only [putsFrom, Act.put, List.setIfInBounds_toArray, List.set_cons_zero, List.set_cons_succ, Nat.reduceAdd, d8] at hK ⊢
      go_simp
      exact hK.out _ _ (Kp.refl _) rfl
    case sc13 =>
      intro x u hg hd K hK
      have d8 : (x 8) = .bool true := And.left hd
      have d12 : (x 12) = .agg #[.int .i64 a0.k, .int .i64 a0.n, .string a0.s, l0] := And.left (And.right hd)
      clear hd
      refine ⟨?_⟩
      simp only [putsFrom, Act.put, List.setIfInBounds_toArray, List.set_cons_zero, List.set_cons_succ, Nat.reduceAdd, d8, d12] at hK ⊢
      go_simp
      go_at_call 29
      have hc := own_h hg R0
      refine hc.mono ?_
      clear hc
      rintro e u' ⟨v1, rfl, hr, hk⟩
      dsimp only
      exact hK.out _ _ hk hr
    case sc14 =>
      intro x u hg hd K hK
      have d8 : (x 8) = .bool true := And.left hd
      have d11 : RdVal u (x 11) a1 := And.left (And.right hd)
      have d13 : RdVal u (x 13) a0 := And.left (And.right (And.right hd))
      clear hd
      refine ⟨?_⟩
      simp only [putsFrom, Act.put, List.setIfInBounds_toArray, List.set_cons_zero, List.set_cons_succ, Nat.reduceAdd, d8] at hK ⊢
      go_simp
      go_at_call 30
      have hc := same_is d11 (Kp.refl _) d13 s3
      refine hc.mono ?_
      clear hc
      rintro e u' ⟨rfl, hk⟩
      dsimp only
      exact hK.out _ _ hk rfl
    case sc15 =>
      intro x u hg hd K hK
      have d8 : (x 8) = .bool true := And.left hd
      have d9 : (x 9) = .bool true := And.left (And.right hd)
      have d14 : (x 14) = .bool true := And.left (And.right (And.right hd))
      clear hd
      refine ⟨?_⟩
      simp only [putsFrom, Act.put, List.setIfInBounds_toArray, List.set_cons_zero, List.set_cons_succ, Nat.reduceAdd, d8, d9, d14] at hK ⊢
      go_simp
      exact hK.out _ _ (Kp.refl _) rfl
    case sc16 =>
      intro x u hg hd K hK
      have d8 : (x 8) = .bool true := And.left hd
      have d15 : (x 15) = .bool true := And.left (And.right hd)
      clear hd
      refine ⟨?_⟩
      simp only [putsFrom, Act.put, List.setIfInBounds_toArray, List.set_cons_zero, List.set_cons_succ, Nat.reduceAdd, d8, d15] at hK ⊢
      go_simp
      exact hK.out _ _ (Kp.refl _) rfl
    case sc17 =>
      intro x u hg hd K hK
      have d16 : (x 16) = .bool true := And.left hd
      clear hd
      refine ⟨?_⟩
      simp only [putsFrom, Act.put, List.setIfInBounds_toArray, List.set_cons_zero, List.set_cons_succ, Nat.reduceAdd, d16] at hK ⊢
      go_simp
      exact hK.out _ _ (Kp.refl _) rfl
    case sc18 =>
      intro x u hg hd K hK
      have d17 : (x 17) = .bool true := And.left hd
      clear hd
      refine ⟨?_⟩
      simp only [putsFrom, Act.put, List.setIfInBounds_toArray, List.set_cons_zero, List.set_cons_succ, Nat.reduceAdd, d17] at hK ⊢
      go_simp
      exact hK.out _ _ (Kp.refl _) rfl
    case sc19 =>
      intro x u hg hd K hK
      have d17 : (x 17) = .bool true := And.left hd
      have d18 : (x 18) = .bool true := And.left (And.right hd)
      clear hd
      refine ⟨?_⟩
      simp only [putsFrom, Act.put, List.setIfInBounds_toArray, List.set_cons_zero, List.set_cons_succ, Nat.reduceAdd, d17, d18] at hK ⊢
      go_simp
      exact hK.out _ _ (Kp.refl _) rfl
    case sc20 =>
      intro x u hg hd K hK
      have d17 : (x 17) = .bool true := And.left hd
      have d19 : (x 19) = .bool false := And.left (And.right hd)
      clear hd
      refine ⟨?_⟩
      simp only [putsFrom, Act.put, List.setIfInBounds_toArray, List.set_cons_zero, List.set_cons_succ, Nat.reduceAdd, d17, d19] at hK ⊢
      go_simp
      exact hK.out _ _ (Kp.refl _) rfl
    case sc21 =>
      intro x u hg hd K hK
      have d20 : (x 20) = .bool false := And.left hd
      clear hd
      refine ⟨?_⟩
      simp only [putsFrom, Act.put, List.setIfInBounds_toArray, List.set_cons_zero, List.set_cons_succ, Nat.reduceAdd, d20] at hK ⊢
      go_simp
      exact hK.out _ _ (Kp.refl _) rfl
    case sc22 =>
      intro x u hg hd K hK
      have d20 : (x 20) = .bool false := And.left hd
      have d21 : (x 21) = .bool true := And.left (And.right hd)
      clear hd
      refine ⟨?_⟩
      simp only [putsFrom, Act.put, List.setIfInBounds_toArray, List.set_cons_zero, List.set_cons_succ, Nat.reduceAdd, d20, d21] at hK ⊢
      go_simp
      exact hK.out _ _ (Kp.refl _) rfl
    case sc23 =>
      intro x u hg hd K hK
      have d17 : (x 17) = .bool true := And.left hd
      have d20 : (x 20) = .bool false := And.left (And.right hd)
      have d22 : (x 22) = .bool false := And.left (And.right (And.right hd))
      clear hd
      refine ⟨?_⟩
      simp only [putsFrom, Act.put, List.setIfInBounds_toArray, List.set_cons_zero, List.set_cons_succ, Nat.reduceAdd, d17, d20, d22] at hK ⊢
      go_simp
      exact hK.out _ _ (Kp.refl _) rfl
    case sc24 =>
      intro x u hg hd K hK
      have d17 : (x 17) = .bool true := And.left hd
      have d23 : (x 23) = .bool false := And.left (And.right hd)
      clear hd
      refine ⟨?_⟩
      simp only [putsFrom, Act.put, List.setIfInBounds_toArray, List.set_cons_zero, List.set_cons_succ, Nat.reduceAdd, d17, d23] at hK ⊢
      go_simp
      exact hK.out _ _ (Kp.refl _) rfl
    case sc25 =>
      intro x u hg hd K hK
      have d24 : (x 24) = .bool false := And.left hd
      clear hd
      refine ⟨?_⟩
      simp only [putsFrom, Act.put, List.setIfInBounds_toArray, List.set_cons_zero, List.set_cons_succ, Nat.reduceAdd, d24] at hK ⊢
      go_simp
      exact hK.out _ _ (Kp.refl _) rfl
    case sc26 =>
      intro x u hg hd K hK
      have d24 : (x 24) = .bool false := And.left hd
      have d25 : (x 25) = .agg #[.int .i64 a0.k, .int .i64 a0.n, .string a0.s, l0] := And.left (And.right hd)
      clear hd
      refine ⟨?_⟩
      simp only [putsFrom, Act.put, List.setIfInBounds_toArray, List.set_cons_zero, List.set_cons_succ, Nat.reduceAdd, d24, d25] at hK ⊢
      go_simp
      go_at_call 29
      have hc := own_h hg R0
      refine hc.mono ?_
      clear hc
      rintro e u' ⟨v1, rfl, hr, hk⟩
      dsimp only
      exact hK.out _ _ hk hr
    case sc27 =>
      intro x u hg hd K hK
      have d24 : (x 24) = .bool false := And.left hd
      clear hd
      refine ⟨?_⟩
      simp only [putsFrom, Act.put, List.setIfInBounds_toArray, List.set_cons_zero, List.set_cons_succ, Nat.reduceAdd, d24] at hK ⊢
      go_simp
      exact hK.out _ _ (Kp.refl _) rfl
    case sc28 =>
      intro x u hg hd K hK
      have d24 : (x 24) = .bool false := And.left hd
      have d27 : (x 27) = .agg #[.int .i64 a2.k, .int .i64 a2.n, .string a2.s, l2] := And.left (And.right hd)
      clear hd
      refine ⟨?_⟩
      simp only [putsFrom, Act.put, List.setIfInBounds_toArray, List.set_cons_zero, List.set_cons_succ, Nat.reduceAdd, d24, d27] at hK ⊢
      go_simp
      go_at_call 29
      have hc := own_h hg R2
      refine hc.mono ?_
      clear hc
      rintro e u' ⟨v1, rfl, hr, hk⟩
      dsimp only
      exact hK.out _ _ hk hr
    case sc29 =>
      intro x u hg hd K hK
      have d24 : (x 24) = .bool false := And.left hd
      have d26 : RdVal u (x 26) a0 := And.left (And.right hd)
      have d28 : RdVal u (x 28) a2 := And.left (And.right (And.right hd))
      clear hd
      refine ⟨?_⟩
      simp only [putsFrom, Act.put, List.setIfInBounds_toArray, List.set_cons_zero, List.set_cons_succ, Nat.reduceAdd, d24] at hK ⊢
      go_simp
      go_at_call 30
      have hc := same_is d26 (Kp.refl _) d28 s5
      refine hc.mono ?_
      clear hc
      rintro e u' ⟨rfl, hk⟩
      dsimp only
      exact hK.out _ _ hk rfl
    case sc30 =>
      intro x u hg hd K hK
      have d17 : (x 17) = .bool true := And.left hd
      have d24 : (x 24) = .bool false := And.left (And.right hd)
      have d29 : (x 29) = .bool true := And.left (And.right (And.right hd))
      clear hd
      refine ⟨?_⟩
      simp only [putsFrom, Act.put, List.setIfInBounds_toArray, List.set_cons_zero, List.set_cons_succ, Nat.reduceAdd, d17, d24, d29] at hK ⊢
      go_simp
      exact hK.out _ _ (Kp.refl _) rfl
    case sc31 =>
      intro x u hg hd K hK
      have d17 : (x 17) = .bool true := And.left hd
      have d30 : (x 30) = .bool true := And.left (And.right hd)
      clear hd
      refine ⟨?_⟩
      simp only [putsFrom, Act.put, List.setIfInBounds_toArray, List.set_cons_zero, List.set_cons_succ, Nat.reduceAdd, d17, d30] at hK ⊢
      go_simp
      exact hK.out _ _ (Kp.refl _) rfl
    case sc32 =>
      intro x u hg hd K hK
      have d31 : (x 31) = .bool true := And.left hd
      clear hd
      refine ⟨?_⟩
      simp only [putsFrom, Act.put, List.setIfInBounds_toArray, List.set_cons_zero, List.set_cons_succ, Nat.reduceAdd, d31] at hK ⊢
      go_simp
      exact hK.out _ _ (Kp.refl _) rfl
    intro x u hg he
    have d0 : (x 0) = .bool true := And.left he
    have d1 : (x 1) = .bool true := And.left (And.right he)
    have d2 : (x 2) = .agg #[.int .i64 a0.k, .int .i64 a0.n, .string a0.s, l0] := And.left (And.right (And.right he))
    have d3 : RdVal u (x 3) a0 := And.left (And.right (And.right (And.right he)))
    have d4 : (x 4) = .agg #[.int .i64 a0.k, .int .i64 a0.n, .string a0.s, l0] := And.left (And.right (And.right (And.right (And.right he))))
    have d5 : RdVal u (x 5) a0 := And.left (And.right (And.right (And.right (And.right (And.right he)))))
    have d6 : (x 6) = .bool true := And.left (And.right (And.right (And.right (And.right (And.right (And.right he))))))
    have d7 : (x 7) = .bool true := And.left (And.right (And.right (And.right (And.right (And.right (And.right (And.right he)))))))
    have d8 : (x 8) = .bool true := And.left (And.right (And.right (And.right (And.right (And.right (And.right (And.right (And.right he))))))))
    have d9 : (x 9) = .bool true := And.left (And.right (And.right (And.right (And.right (And.right (And.right (And.right (And.right (And.right he)))))))))
    have d10 : (x 10) = .agg #[.int .i64 a1.k, .int .i64 a1.n, .string a1.s, l1] := And.left (And.right (And.right (And.right (And.right (And.right (And.right (And.right (And.right (And.right (And.right he))))))))))
    have d11 : RdVal u (x 11) a1 := And.left (And.right (And.right (And.right (And.right (And.right (And.right (And.right (And.right (And.right (And.right (And.right he)))))))))))
    have d12 : (x 12) = .agg #[.int .i64 a0.k, .int .i64 a0.n, .string a0.s, l0] := And.left (And.right (And.right (And.right (And.right (And.right (And.right (And.right (And.right (And.right (And.right (And.right (And.right he))))))))))))
    have d13 : RdVal u (x 13) a0 := And.left (And.right (And.right (And.right (And.right (And.right (And.right (And.right (And.right (And.right (And.right (And.right (And.right (And.right he)))))))))))))
    have d14 : (x 14) = .bool true := And.left (And.right (And.right (And.right (And.right (And.right (And.right (And.right (And.right (And.right (And.right (And.right (And.right (And.right (And.right he))))))))))))))
    have d15 : (x 15) = .bool true := And.left (And.right (And.right (And.right (And.right (And.right (And.right (And.right (And.right (And.right (And.right (And.right (And.right (And.right (And.right (And.right he)))))))))))))))
    have d16 : (x 16) = .bool true := And.left (And.right (And.right (And.right (And.right (And.right (And.right (And.right (And.right (And.right (And.right (And.right (And.right (And.right (And.right (And.right (And.right he))))))))))))))))
    have d17 : (x 17) = .bool true := And.left (And.right (And.right (And.right (And.right (And.right (And.right (And.right (And.right (And.right (And.right (And.right (And.right (And.right (And.right (And.right (And.right (And.right he)))))))))))))))))
    have d18 : (x 18) = .bool true := And.left (And.right (And.right (And.right (And.right (And.right (And.right (And.right (And.right (And.right (And.right (And.right (And.right (And.right (And.right (And.right (And.right (And.right (And.right he))))))))))))))))))
    have d19 : (x 19) = .bool false := And.left (And.right (And.right (And.right (And.right (And.right (And.right (And.right (And.right (And.right (And.right (And.right (And.right (And.right (And.right (And.right (And.right (And.right (And.right (And.right he)))))))))))))))))))
    have d20 : (x 20) = .bool false := And.left (And.right (And.right (And.right (And.right (And.right (And.right (And.right (And.right (And.right (And.right (And.right (And.right (And.right (And.right (And.right (And.right (And.right (And.right (And.right (And.right he))))))))))))))))))))
    have d21 : (x 21) = .bool true := And.left (And.right (And.right (And.right (And.right (And.right (And.right (And.right (And.right (And.right (And.right (And.right (And.right (And.right (And.right (And.right (And.right (And.right (And.right (And.right (And.right (And.right he)))))))))))))))))))))
    have d22 : (x 22) = .bool false := And.left (And.right (And.right (And.right (And.right (And.right (And.right (And.right (And.right (And.right (And.right (And.right (And.right (And.right (And.right (And.right (And.right (And.right (And.right (And.right (And.right (And.right (And.right he))))))))))))))))))))))
    have d23 : (x 23) = .bool false := And.left (And.right (And.right (And.right (And.right (And.right (And.right (And.right (And.right (And.right (And.right (And.right (And.right (And.right (And.right (And.right (And.right (And.right (And.right (And.right (And.right (And.right (And.right (And.right he)))))))))))))))))))))))
    have d24 : (x 24) = .bool false := And.left (And.right (And.right (And.right (And.right (And.right (And.right (And.right (And.right (And.right (And.right (And.right (And.right (And.right (And.right (And.right (And.right (And.right (And.right (And.right (And.right (And.right (And.right (And.right (And.right he))))))))))))))))))))))))
    have d25 : (x 25) = .agg #[.int .i64 a0.k, .int .i64 a0.n, .string a0.s, l0] := And.left (And.right (And.right (And.right (And.right (And.right (And.right (And.right (And.right (And.right (And.right (And.right (And.right (And.right (And.right (And.right (And.right (And.right (And.right (And.right (And.right (And.right (And.right (And.right (And.right (And.right he)))))))))))))))))))))))))
    have d26 : RdVal u (x 26) a0 := And.left (And.right (And.right (And.right (And.right (And.right (And.right (And.right (And.right (And.right (And.right (And.right (And.right (And.right (And.right (And.right (And.right (And.right (And.right (And.right (And.right (And.right (And.right (And.right (And.right (And.right (And.right he))))))))))))))))))))))))))
    have d27 : (x 27) = .agg #[.int .i64 a2.k, .int .i64 a2.n, .string a2.s, l2] := And.left (And.right (And.right (And.right (And.right (And.right (And.right (And.right (And.right (And.right (And.right (And.right (And.right (And.right (And.right (And.right (And.right (And.right (And.right (And.right (And.right (And.right (And.right (And.right (And.right (And.right (And.right (And.right he)))))))))))))))))))))))))))
    have d28 : RdVal u (x 28) a2 := And.left (And.right (And.right (And.right (And.right (And.right (And.right (And.right (And.right (And.right (And.right (And.right (And.right (And.right (And.right (And.right (And.right (And.right (And.right (And.right (And.right (And.right (And.right (And.right (And.right (And.right (And.right (And.right (And.right he))))))))))))))))))))))))))))
    have d29 : (x 29) = .bool true := And.left (And.right (And.right (And.right (And.right (And.right (And.right (And.right (And.right (And.right (And.right (And.right (And.right (And.right (And.right (And.right (And.right (And.right (And.right (And.right (And.right (And.right (And.right (And.right (And.right (And.right (And.right (And.right (And.right (And.right he)))))))))))))))))))))))))))))
    have d30 : (x 30) = .bool true := And.left (And.right (And.right (And.right (And.right (And.right (And.right (And.right (And.right (And.right (And.right (And.right (And.right (And.right (And.right (And.right (And.right (And.right (And.right (And.right (And.right (And.right (And.right (And.right (And.right (And.right (And.right (And.right (And.right (And.right (And.right he))))))))))))))))))))))))))))))
    have d31 : (x 31) = .bool true := And.left (And.right (And.right (And.right (And.right (And.right (And.right (And.right (And.right (And.right (And.right (And.right (And.right (And.right (And.right (And.right (And.right (And.right (And.right (And.right (And.right (And.right (And.right (And.right (And.right (And.right (And.right (And.right (And.right (And.right (And.right (And.right he)))))))))))))))))))))))))))))))
    have d32 : (x 32) = .bool true := And.left (And.right (And.right (And.right (And.right (And.right (And.right (And.right (And.right (And.right (And.right (And.right (And.right (And.right (And.right (And.right (And.right (And.right (And.right (And.right (And.right (And.right (And.right (And.right (And.right (And.right (And.right (And.right (And.right (And.right (And.right (And.right (And.right he))))))))))))))))))))))))))))))))
    clear he
    refine ⟨?_⟩
    simp only [putsFrom, Act.put, List.setIfInBounds_toArray, List.set_cons_zero, List.set_cons_succ, Nat.reduceAdd, d0, d1, d2, d4, d6, d7, d8, d9, d10, d12, d14, d15, d16, d17, d18, d19, d20, d21, d22, d23, d24, d25, d27, d29, d30, d31, d32]
    clear d0 d1 d2 d4 d6 d7 d8 d9 d10 d12 d14 d15 d16 d17 d18 d19 d20 d21 d22 d23 d24 d25 d27 d29 d30 d31 d32
    go_wp2_with fail
    go_ret
    exact ⟨rfl, hg.2.2.2.1⟩
  · clear s4
    have hc : (p = true ∧ q = false) ∨ p = false := by cases p <;> cases q <;> simp_all
    clear hpq
    rcases hc with ⟨rfl, rfl⟩ | rfl
    · skip
      refine wp_region_kp [[], [0], [1], [1, 2], [1], [1, 4], [1, 3, 5], [1, 6], [7], [8], [8], [8, 10], [8], [8, 12], [8, 11, 13], [8, 9, 14], [8, 15], [16], [17], [17, 18], [17, 19], [20], [20, 21], [17, 20, 22], [17, 23], [24], [24, 25], [24], [24, 27], [24, 26, 28], [17, 24, 29], [17, 30], [31]] (Held3 w a0 a1 a2 l0 l1 l2)
        [fun (y : Value) (u : World) => y = (.bool true : Value),
         fun (y : Value) (u : World) => y = (.bool true : Value),
         fun (y : Value) (u : World) => y = (.agg #[.int .i64 a0.k, .int .i64 a0.n, .string a0.s, l0] : Value),
         fun (y : Value) (u : World) => RdVal u y a0,
         fun (y : Value) (u : World) => y = (.agg #[.int .i64 a0.k, .int .i64 a0.n, .string a0.s, l0] : Value),
         fun (y : Value) (u : World) => RdVal u y a0,
         fun (y : Value) (u : World) => y = (.bool true : Value),
         fun (y : Value) (u : World) => y = (.bool true : Value),
         fun (y : Value) (u : World) => y = (.bool true : Value),
         fun (y : Value) (u : World) => y = (.bool true : Value),
         fun (y : Value) (u : World) => y = (.agg #[.int .i64 a1.k, .int .i64 a1.n, .string a1.s, l1] : Value),
         fun (y : Value) (u : World) => RdVal u y a1,
         fun (y : Value) (u : World) => y = (.agg #[.int .i64 a0.k, .int .i64 a0.n, .string a0.s, l0] : Value),
         fun (y : Value) (u : World) => RdVal u y a0,
         fun (y : Value) (u : World) => y = (.bool true : Value),
         fun (y : Value) (u : World) => y = (.bool true : Value),
         fun (y : Value) (u : World) => y = (.bool true : Value),
         fun (y : Value) (u : World) => y = (.bool true : Value),
         fun (y : Value) (u : World) => y = (.bool true : Value),
         fun (y : Value) (u : World) => y = (.bool false : Value),
         fun (y : Value) (u : World) => y = (.bool false : Value),
         fun (y : Value) (u : World) => y = (.bool false : Value),
         fun (y : Value) (u : World) => y = (.bool true : Value),
         fun (y : Value) (u : World) => y = (.bool true : Value),
         fun (y : Value) (u : World) => y = (.bool true : Value),
         fun (y : Value) (u : World) => y = (undef : Value),
         fun (y : Value) (u : World) => y = (undef : Value),
         fun (y : Value) (u : World) => y = (undef : Value),
         fun (y : Value) (u : World) => y = (undef : Value),
         fun (y : Value) (u : World) => y = (undef : Value),
         fun (y : Value) (u : World) => y = (.bool true : Value),
         fun (y : Value) (u : World) => y = (.bool true : Value),
         fun (y : Value) (u : World) => y = (.bool true : Value)]
        (by kernel_rfl) (by kernel_rfl) (by kernel_rfl) (by kernel_rfl) (H1.kp (Kp.refl _).drew) (fun _ _ hk h => h.kp hk) ⟨fun _ _ _ _ h => h, fun _ _ _ _ h => h, fun _ _ _ _ h => h, fun _ _ _ hk h => h.kp hk, fun _ _ _ _ h => h, fun _ _ _ hk h => h.kp hk, fun _ _ _ _ h => h, fun _ _ _ _ h => h, fun _ _ _ _ h => h, fun _ _ _ _ h => h, fun _ _ _ _ h => h, fun _ _ _ hk h => h.kp hk, fun _ _ _ _ h => h, fun _ _ _ hk h => h.kp hk, fun _ _ _ _ h => h, fun _ _ _ _ h => h, fun _ _ _ _ h => h, fun _ _ _ _ h => h, fun _ _ _ _ h => h, fun _ _ _ _ h => h, fun _ _ _ _ h => h, fun _ _ _ _ h => h, fun _ _ _ _ h => h, fun _ _ _ _ h => h, fun _ _ _ _ h => h, fun _ _ _ _ h => h, fun _ _ _ _ h => h, fun _ _ _ _ h => h, fun _ _ _ _ h => h, fun _ _ _ _ h => h, fun _ _ _ _ h => h, fun _ _ _ _ h => h, fun _ _ _ _ h => h, trivial⟩ ⟨?sd0, ?sd1, ?sd2, ?sd3, ?sd4, ?sd5, ?sd6, ?sd7, ?sd8, ?sd9, ?sd10, ?sd11, ?sd12, ?sd13, ?sd14, ?sd15, ?sd16, ?sd17, ?sd18, ?sd19, ?sd20, ?sd21, ?sd22, ?sd23, ?sd24, ?sd25, ?sd26, ?sd27, ?sd28, ?sd29, ?sd30, ?sd31, ?sd32, trivial⟩ ?hEd
      case sd0 =>
        intro x u hg hd K hK
        clear hd
        refine ⟨?_⟩
        simp only [putsFrom, Act.put, List.setIfInBounds_toArray, List.set_cons_zero, List.set_cons_succ, Nat.reduceAdd] at hK ⊢
        go_simp
        go_at_call 31
        have hc := shown_any u
        refine hc.mono ?_
        clear hc
        rintro e u' ⟨rfl, hk⟩
        dsimp only
        exact hK.out _ _ hk rfl
      case sd1 =>
        intro x u hg hd K hK
        have d0 : (x 0) = .bool true := And.left hd
        clear hd
        refine ⟨?_⟩
        simp only [putsFrom, Act.put, List.setIfInBounds_toArray, List.set_cons_zero, List.set_cons_succ, Nat.reduceAdd, d0] at hK ⊢
        go_simp
        exact hK.out _ _ (Kp.refl _) rfl
      case sd2 =>
        intro x u hg hd K hK
        have d1 : (x 1) = .bool true := And.left hd
        clear hd
        refine ⟨?_⟩
        simp only [putsFrom, Act.put, List.setIfInBounds_toArray, List.set_cons_zero, List.set_cons_succ, Nat.reduceAdd, d1] at hK ⊢
        go_simp
        exact hK.out _ _ (Kp.refl _) rfl
      case sd3 =>
        intro x u hg hd K hK
        have d1 : (x 1) = .bool true := And.left hd
        have d2 : (x 2) = .agg #[.int .i64 a0.k, .int .i64 a0.n, .string a0.s, l0] := And.left (And.right hd)
        clear hd
        refine ⟨?_⟩
        simp only [putsFrom, Act.put, List.setIfInBounds_toArray, List.set_cons_zero, List.set_cons_succ, Nat.reduceAdd, d1, d2] at hK ⊢
        go_simp
        go_at_call 29
        have hc := own_h hg R0
        refine hc.mono ?_
        clear hc
        rintro e u' ⟨v1, rfl, hr, hk⟩
        dsimp only
        exact hK.out _ _ hk hr
      case sd4 =>
        intro x u hg hd K hK
        have d1 : (x 1) = .bool true := And.left hd
        clear hd
        refine ⟨?_⟩
        simp only [putsFrom, Act.put, List.setIfInBounds_toArray, List.set_cons_zero, List.set_cons_succ, Nat.reduceAdd, d1] at hK ⊢
        go_simp
        exact hK.out _ _ (Kp.refl _) rfl
      case sd5 =>
        intro x u hg hd K hK
        have d1 : (x 1) = .bool true := And.left hd
        have d4 : (x 4) = .agg #[.int .i64 a0.k, .int .i64 a0.n, .string a0.s, l0] := And.left (And.right hd)
        clear hd
        refine ⟨?_⟩
        simp only [putsFrom, Act.put, List.setIfInBounds_toArray, List.set_cons_zero, List.set_cons_succ, Nat.reduceAdd, d1, d4] at hK ⊢
        go_simp
        go_at_call 29
        have hc := own_h hg R0
        refine hc.mono ?_
        clear hc
        rintro e u' ⟨v1, rfl, hr, hk⟩
        dsimp only
        exact hK.out _ _ hk hr
      case sd6 =>
        intro x u hg hd K hK
        have d1 : (x 1) = .bool true := And.left hd
        have d3 : RdVal u (x 3) a0 := And.left (And.right hd)
        have d5 : RdVal u (x 5) a0 := And.left (And.right (And.right hd))
        clear hd
        refine ⟨?_⟩
        simp only [putsFrom, Act.put, List.setIfInBounds_toArray, List.set_cons_zero, List.set_cons_succ, Nat.reduceAdd, d1] at hK ⊢
        go_simp
        go_at_call 30
        have hc := same_is d3 (Kp.refl _) d5 s0
        refine hc.mono ?_
        clear hc
        rintro e u' ⟨rfl, hk⟩
        dsimp only
        exact hK.out _ _ hk rfl
      case sd7 =>
        intro x u hg hd K hK
        have d1 : (x 1) = .bool true := And.left hd
        have d6 : (x 6) = .bool true := And.left (And.right hd)
        clear hd
        refine ⟨?_⟩
        simp only [putsFrom, Act.put, List.setIfInBounds_toArray, List.set_cons_zero, List.set_cons_succ, Nat.reduceAdd, d1, d6] at hK ⊢
        go_simp
        exact hK.out _ _ (Kp.refl _) rfl
      case sd8 =>
        intro x u hg hd K hK
        have d7 : (x 7) = .bool true := And.left hd
        clear hd
        refine ⟨?_⟩
        simp only [putsFrom, Act.put, List.setIfInBounds_toArray, List.set_cons_zero, List.set_cons_succ, Nat.reduceAdd, d7] at hK ⊢
        go_simp
        exact hK.out _ _ (Kp.refl _) rfl
      case sd9 =>
        intro x u hg hd K hK
        have d8 : (x 8) = .bool true := And.left hd
        clear hd
        refine ⟨?_⟩
        simp only [putsFrom, Act.put, List.setIfInBounds_toArray, List.set_cons_zero, List.set_cons_succ, Nat.reduceAdd, d8] at hK ⊢
        go_simp
        exact hK.out _ _ (Kp.refl _) rfl
      case sd10 =>
        intro x u hg hd K hK
        have d8 : (x 8) = .bool true := And.left hd
        clear hd
        refine ⟨?_⟩
        simp only [putsFrom, Act.put, List.setIfInBounds_toArray, List.set_cons_zero, List.set_cons_succ, Nat.reduceAdd, d8] at hK ⊢
        go_simp
        exact hK.out _ _ (Kp.refl _) rfl
      case sd11 =>
        intro x u hg hd K hK
        have d8 : (x 8) = .bool true := And.left hd
        have d10 : (x 10) = .agg #[.int .i64 a1.k, .int .i64 a1.n, .string a1.s, l1] := And.left (And.right hd)
        clear hd
        refine ⟨?_⟩
        simp only [putsFrom, Act.put, List.setIfInBounds_toArray, List.set_cons_zero, List.set_cons_succ, Nat.reduceAdd, d8, d10] at hK ⊢
        go_simp
        go_at_call 29
        have hc := own_h hg R1
        refine hc.mono ?_
        clear hc
        rintro e u' ⟨v1, rfl, hr, hk⟩
        dsimp only
        exact hK.out _ _ hk hr
      case sd12 =>
        intro x u hg hd K hK
        have d8 : (x 8) = .bool true := And.left hd
        clear hd
        refine ⟨?_⟩
        simp only [putsFrom, Act.put, List.setIfInBounds_toArray, List.set_cons_zero, List.set_cons_succ, Nat.reduceAdd, d8] at hK ⊢
        go_simp
        exact hK.out _ _ (Kp.refl _) rfl
      case sd13 =>
        intro x u hg hd K hK
        have d8 : (x 8) = .bool true := And.left hd
        have d12 : (x 12) = .agg #[.int .i64 a0.k, .int .i64 a0.n, .string a0.s, l0] := And.left (And.right hd)
        clear hd
        refine ⟨?_⟩
        simp only [putsFrom, Act.put, List.setIfInBounds_toArray, List.set_cons_zero, List.set_cons_succ, Nat.reduceAdd, d8, d12] at hK ⊢
        go_simp
        go_at_call 29
        have hc := own_h hg R0
        refine hc.mono ?_
        clear hc
        rintro e u' ⟨v1, rfl, hr, hk⟩
        dsimp only
        exact hK.out _ _ hk hr
      case sd14 =>
        intro x u hg hd K hK
        have d8 : (x 8) = .bool true := And.left hd
        have d11 : RdVal u (x 11) a1 := And.left (And.right hd)
        have d13 : RdVal u (x 13) a0 := And.left (And.right (And.right hd))
        clear hd
        refine ⟨?_⟩
        simp only [putsFrom, Act.put, List.setIfInBounds_toArray, List.set_cons_zero, List.set_cons_succ, Nat.reduceAdd, d8] at hK ⊢
        go_simp
        go_at_call 30
        have hc := same_is d11 (Kp.refl _) d13 s3
        refine hc.mono ?_
        clear hc
        rintro e u' ⟨rfl, hk⟩
        dsimp only
        exact hK.out _ _ hk rfl
      case sd15 =>
        intro x u hg hd K hK
        have d8 : (x 8) = .bool true := And.left hd
        have d9 : (x 9) = .bool true := And.left (And.right hd)
        have d14 : (x 14) = .bool true := And.left (And.right (And.right hd))
        clear hd
        refine ⟨?_⟩
        simp only [putsFrom, Act.put, List.setIfInBounds_toArray, List.set_cons_zero, List.set_cons_succ, Nat.reduceAdd, d8, d9, d14] at hK ⊢
        go_simp
        exact hK.out _ _ (Kp.refl _) rfl
      case sd16 =>
        intro x u hg hd K hK
        have d8 : (x 8) = .bool true := And.left hd
        have d15 : (x 15) = .bool true := And.left (And.right hd)
        clear hd
        refine ⟨?_⟩
        simp only [putsFrom, Act.put, List.setIfInBounds_toArray, List.set_cons_zero, List.set_cons_succ, Nat.reduceAdd, d8, d15] at hK ⊢
        go_simp
        exact hK.out _ _ (Kp.refl _) rfl
      case sd17 =>
        intro x u hg hd K hK
        have d16 : (x 16) = .bool true := And.left hd
        clear hd
        refine ⟨?_⟩
        simp only [putsFrom, Act.put, List.setIfInBounds_toArray, List.set_cons_zero, List.set_cons_succ, Nat.reduceAdd, d16] at hK ⊢
        go_simp
        exact hK.out _ _ (Kp.refl _) rfl
      case sd18 =>
        intro x u hg hd K hK
        have d17 : (x 17) = .bool true := And.left hd
        clear hd
        refine ⟨?_⟩
        simp only [putsFrom, Act.put, List.setIfInBounds_toArray, List.set_cons_zero, List.set_cons_succ, Nat.reduceAdd, d17] at hK ⊢
        go_simp
        exact hK.out _ _ (Kp.refl _) rfl
      case sd19 =>
        intro x u hg hd K hK
        have d17 : (x 17) = .bool true := And.left hd
        have d18 : (x 18) = .bool true := And.left (And.right hd)
        clear hd
        refine ⟨?_⟩
        simp only [putsFrom, Act.put, List.setIfInBounds_toArray, List.set_cons_zero, List.set_cons_succ, Nat.reduceAdd, d17, d18] at hK ⊢
        go_simp
        exact hK.out _ _ (Kp.refl _) rfl
      case sd20 =>
        intro x u hg hd K hK
        have d17 : (x 17) = .bool true := And.left hd
        have d19 : (x 19) = .bool false := And.left (And.right hd)
        clear hd
        refine ⟨?_⟩
        simp only [putsFrom, Act.put, List.setIfInBounds_toArray, List.set_cons_zero, List.set_cons_succ, Nat.reduceAdd, d17, d19] at hK ⊢
        go_simp
        exact hK.out _ _ (Kp.refl _) rfl
      case sd21 =>
        intro x u hg hd K hK
        have d20 : (x 20) = .bool false := And.left hd
        clear hd
        refine ⟨?_⟩
        simp only [putsFrom, Act.put, List.setIfInBounds_toArray, List.set_cons_zero, List.set_cons_succ, Nat.reduceAdd, d20] at hK ⊢
        go_simp
        exact hK.out _ _ (Kp.refl _) rfl
      case sd22 =>
        intro x u hg hd K hK
        have d20 : (x 20) = .bool false := And.left hd
        have d21 : (x 21) = .bool false := And.left (And.right hd)
        clear hd
        refine ⟨?_⟩
        simp only [putsFrom, Act.put, List.setIfInBounds_toArray, List.set_cons_zero, List.set_cons_succ, Nat.reduceAdd, d20, d21] at hK ⊢
        go_simp
        exact hK.out _ _ (Kp.refl _) rfl
      case sd23 =>
        intro x u hg hd K hK
        have d17 : (x 17) = .bool true := And.left hd
        have d20 : (x 20) = .bool false := And.left (And.right hd)
        have d22 : (x 22) = .bool true := And.left (And.right (And.right hd))
        clear hd
        refine ⟨?_⟩
        simp only [putsFrom, Act.put, List.setIfInBounds_toArray, List.set_cons_zero, List.set_cons_succ, Nat.reduceAdd, d17, d20, d22] at hK ⊢
        go_simp
        exact hK.out _ _ (Kp.refl _) rfl
      case sd24 =>
        intro x u hg hd K hK
        have d17 : (x 17) = .bool true := And.left hd
        have d23 : (x 23) = .bool true := And.left (And.right hd)
        clear hd
        refine ⟨?_⟩
        simp only [putsFrom, Act.put, List.setIfInBounds_toArray, List.set_cons_zero, List.set_cons_succ, Nat.reduceAdd, d17, d23] at hK ⊢
        go_simp
        exact hK.out _ _ (Kp.refl _) rfl
      case sd25 =>
        intro x u hg hd K hK
        have d24 : (x 24) = .bool true := And.left hd
        clear hd
        refine ⟨?_⟩
        simp only [putsFrom, Act.put, List.setIfInBounds_toArray, List.set_cons_zero, List.set_cons_succ, Nat.reduceAdd, d24] at hK ⊢
        go_simp
        exact hK.out _ _ (Kp.refl _) rfl
      case sd26 =>
        intro x u hg hd K hK
        have d24 : (x 24) = .bool true := And.left hd
        have d25 : (x 25) = undef := And.left (And.right hd)
        clear hd
        refine ⟨?_⟩
        simp only [putsFrom, Act.put, List.setIfInBounds_toArray, List.set_cons_zero, List.set_cons_succ, Nat.reduceAdd, d24, d25] at hK ⊢
        go_simp
        exact hK.out _ _ (Kp.refl _) rfl
      case sd27 =>
        intro x u hg hd K hK
        have d24 : (x 24) = .bool true := And.left hd
        clear hd
        refine ⟨?_⟩
        simp only [putsFrom, Act.put, List.setIfInBounds_toArray, List.set_cons_zero, List.set_cons_succ, Nat.reduceAdd, d24] at hK ⊢
        go_simp
        exact hK.out _ _ (Kp.refl _) rfl
      case sd28 =>
        intro x u hg hd K hK
        have d24 : (x 24) = .bool true := And.left hd
        have d27 : (x 27) = undef := And.left (And.right hd)
        clear hd
        refine ⟨?_⟩
        simp only [putsFrom, Act.put, List.setIfInBounds_toArray, List.set_cons_zero, List.set_cons_succ, Nat.reduceAdd, d24, d27] at hK ⊢
        go_simp
        exact hK.out _ _ (Kp.refl _) rfl
      case sd29 =>
        intro x u hg hd K hK
        have d24 : (x 24) = .bool true := And.left hd
        have d26 : (x 26) = undef := And.left (And.right hd)
        have d28 : (x 28) = undef := And.left (And.right (And.right hd))
        clear hd
        refine ⟨?_⟩
        simp only [putsFrom, Act.put, List.setIfInBounds_toArray, List.set_cons_zero, List.set_cons_succ, Nat.reduceAdd, d24, d26, d28] at hK ⊢
        go_simp
        exact hK.out _ _ (Kp.refl _) rfl
      case sd30 =>
        intro x u hg hd K hK
        have d17 : (x 17) = .bool true := And.left hd
        have d24 : (x 24) = .bool true := And.left (And.right hd)
        have d29 : (x 29) = undef := And.left (And.right (And.right hd))
        clear hd
        refine ⟨?_⟩
        simp only [putsFrom, Act.put, List.setIfInBounds_toArray, List.set_cons_zero, List.set_cons_succ, Nat.reduceAdd, d17, d24, d29] at hK ⊢
        go_simp
        exact hK.out _ _ (Kp.refl _) rfl
      case sd31 =>
        intro x u hg hd K hK
        have d17 : (x 17) = .bool true := And.left hd
        have d30 : (x 30) = .bool true := And.left (And.right hd)
        clear hd
        refine ⟨?_⟩
        simp only [putsFrom, Act.put, List.setIfInBounds_toArray, List.set_cons_zero, List.set_cons_succ, Nat.reduceAdd, d17, d30] at hK ⊢
        go_simp
        exact hK.out _ _ (Kp.refl _) rfl
      case sd32 =>
        intro x u hg hd K hK
        have d31 : (x 31) = .bool true := And.left hd
        clear hd
        refine ⟨?_⟩
        simp only [putsFrom, Act.put, List.setIfInBounds_toArray, List.set_cons_zero, List.set_cons_succ, Nat.reduceAdd, d31] at hK ⊢
        go_simp
        exact hK.out _ _ (Kp.refl _) rfl
      intro x u hg he
      have d0 : (x 0) = .bool true := And.left he
      have d1 : (x 1) = .bool true := And.left (And.right he)
      have d2 : (x 2) = .agg #[.int .i64 a0.k, .int .i64 a0.n, .string a0.s, l0] := And.left (And.right (And.right he))
      have d3 : RdVal u (x 3) a0 := And.left (And.right (And.right (And.right he)))
      have d4 : (x 4) = .agg #[.int .i64 a0.k, .int .i64 a0.n, .string a0.s, l0] := And.left (And.right (And.right (And.right (And.right he))))
      have d5 : RdVal u (x 5) a0 := And.left (And.right (And.right (And.right (And.right (And.right he)))))
      have d6 : (x 6) = .bool true := And.left (And.right (And.right (And.right (And.right (And.right (And.right he))))))
      have d7 : (x 7) = .bool true := And.left (And.right (And.right (And.right (And.right (And.right (And.right (And.right he)))))))
      have d8 : (x 8) = .bool true := And.left (And.right (And.right (And.right (And.right (And.right (And.right (And.right (And.right he))))))))
      have d9 : (x 9) = .bool true := And.left (And.right (And.right (And.right (And.right (And.right (And.right (And.right (And.right (And.right he)))))))))
      have d10 : (x 10) = .agg #[.int .i64 a1.k, .int .i64 a1.n, .string a1.s, l1] := And.left (And.right (And.right (And.right (And.right (And.right (And.right (And.right (And.right (And.right (And.right he))))))))))
      have d11 : RdVal u (x 11) a1 := And.left (And.right (And.right (And.right (And.right (And.right (And.right (And.right (And.right (And.right (And.right (And.right he)))))))))))
      have d12 : (x 12) = .agg #[.int .i64 a0.k, .int .i64 a0.n, .string a0.s, l0] := And.left (And.right (And.right (And.right (And.right (And.right (And.right (And.right (And.right (And.right (And.right (And.right (And.right he))))))))))))
      have d13 : RdVal u (x 13) a0 := And.left (And.right (And.right (And.right (And.right (And.right (And.right (And.right (And.right (And.right (And.right (And.right (And.right (And.right he)))))))))))))
      have d14 : (x 14) = .bool true := And.left (And.right (And.right (And.right (And.right (And.right (And.right (And.right (And.right (And.right (And.right (And.right (And.right (And.right (And.right he))))))))))))))
      have d15 : (x 15) = .bool true := And.left (And.right (And.right (And.right (And.right (And.right (And.right (And.right (And.right (And.right (And.right (And.right (And.right (And.right (And.right (And.right he)))))))))))))))
      have d16 : (x 16) = .bool true := And.left (And.right (And.right (And.right (And.right (And.right (And.right (And.right (And.right (And.right (And.right (And.right (And.right (And.right (And.right (And.right (And.right he))))))))))))))))
      have d17 : (x 17) = .bool true := And.left (And.right (And.right (And.right (And.right (And.right (And.right (And.right (And.right (And.right (And.right (And.right (And.right (And.right (And.right (And.right (And.right (And.right he)))))))))))))))))
      have d18 : (x 18) = .bool true := And.left (And.right (And.right (And.right (And.right (And.right (And.right (And.right (And.right (And.right (And.right (And.right (And.right (And.right (And.right (And.right (And.right (And.right (And.right he))))))))))))))))))
      have d19 : (x 19) = .bool false := And.left (And.right (And.right (And.right (And.right (And.right (And.right (And.right (And.right (And.right (And.right (And.right (And.right (And.right (And.right (And.right (And.right (And.right (And.right (And.right he)))))))))))))))))))
      have d20 : (x 20) = .bool false := And.left (And.right (And.right (And.right (And.right (And.right (And.right (And.right (And.right (And.right (And.right (And.right (And.right (And.right (And.right (And.right (And.right (And.right (And.right (And.right (And.right he))))))))))))))))))))
      have d21 : (x 21) = .bool false := And.left (And.right (And.right (And.right (And.right (And.right (And.right (And.right (And.right (And.right (And.right (And.right (And.right (And.right (And.right (And.right (And.right (And.right (And.right (And.right (And.right (And.right he)))))))))))))))))))))
      have d22 : (x 22) = .bool true := And.left (And.right (And.right (And.right (And.right (And.right (And.right (And.right (And.right (And.right (And.right (And.right (And.right (And.right (And.right (And.right (And.right (And.right (And.right (And.right (And.right (And.right (And.right he))))))))))))))))))))))
      have d23 : (x 23) = .bool true := And.left (And.right (And.right (And.right (And.right (And.right (And.right (And.right (And.right (And.right (And.right (And.right (And.right (And.right (And.right (And.right (And.right (And.right (And.right (And.right (And.right (And.right (And.right (And.right he)))))))))))))))))))))))
      have d24 : (x 24) = .bool true := And.left (And.right (And.right (And.right (And.right (And.right (And.right (And.right (And.right (And.right (And.right (And.right (And.right (And.right (And.right (And.right (And.right (And.right (And.right (And.right (And.right (And.right (And.right (And.right (And.right he))))))))))))))))))))))))
      have d25 : (x 25) = undef := And.left (And.right (And.right (And.right (And.right (And.right (And.right (And.right (And.right (And.right (And.right (And.right (And.right (And.right (And.right (And.right (And.right (And.right (And.right (And.right (And.right (And.right (And.right (And.right (And.right (And.right he)))))))))))))))))))))))))
      have d26 : (x 26) = undef := And.left (And.right (And.right (And.right (And.right (And.right (And.right (And.right (And.right (And.right (And.right (And.right (And.right (And.right (And.right (And.right (And.right (And.right (And.right (And.right (And.right (And.right (And.right (And.right (And.right (And.right (And.right he))))))))))))))))))))))))))
      have d27 : (x 27) = undef := And.left (And.right (And.right (And.right (And.right (And.right (And.right (And.right (And.right (And.right (And.right (And.right (And.right (And.right (And.right (And.right (And.right (And.right (And.right (And.right (And.right (And.right (And.right (And.right (And.right (And.right (And.right (And.right he)))))))))))))))))))))))))))
      have d28 : (x 28) = undef := And.left (And.right (And.right (And.right (And.right (And.right (And.right (And.right (And.right (And.right (And.right (And.right (And.right (And.right (And.right (And.right (And.right (And.right (And.right (And.right (And.right (And.right (And.right (And.right (And.right (And.right (And.right (And.right (And.right he))))))))))))))))))))))))))))
      have d29 : (x 29) = undef := And.left (And.right (And.right (And.right (And.right (And.right (And.right (And.right (And.right (And.right (And.right (And.right (And.right (And.right (And.right (And.right (And.right (And.right (And.right (And.right (And.right (And.right (And.right (And.right (And.right (And.right (And.right (And.right (And.right (And.right he)))))))))))))))))))))))))))))
      have d30 : (x 30) = .bool true := And.left (And.right (And.right (And.right (And.right (And.right (And.right (And.right (And.right (And.right (And.right (And.right (And.right (And.right (And.right (And.right (And.right (And.right (And.right (And.right (And.right (And.right (And.right (And.right (And.right (And.right (And.right (And.right (And.right (And.right (And.right he))))))))))))))))))))))))))))))
      have d31 : (x 31) = .bool true := And.left (And.right (And.right (And.right (And.right (And.right (And.right (And.right (And.right (And.right (And.right (And.right (And.right (And.right (And.right (And.right (And.right (And.right (And.right (And.right (And.right (And.right (And.right (And.right (And.right (And.right (And.right (And.right (And.right (And.right (And.right (And.right he)))))))))))))))))))))))))))))))
      have d32 : (x 32) = .bool true := And.left (And.right (And.right (And.right (And.right (And.right (And.right (And.right (And.right (And.right (And.right (And.right (And.right (And.right (And.right (And.right (And.right (And.right (And.right (And.right (And.right (And.right (And.right (And.right (And.right (And.right (And.right (And.right (And.right (And.right (And.right (And.right (And.right he))))))))))))))))))))))))))))))))
      clear he
      refine ⟨?_⟩
      simp only [putsFrom, Act.put, List.setIfInBounds_toArray, List.set_cons_zero, List.set_cons_succ, Nat.reduceAdd, d0, d1, d2, d4, d6, d7, d8, d9, d10, d12, d14, d15, d16, d17, d18, d19, d20, d21, d22, d23, d24, d25, d26, d27, d28, d29, d30, d31, d32]
      clear d0 d1 d2 d4 d6 d7 d8 d9 d10 d12 d14 d15 d16 d17 d18 d19 d20 d21 d22 d23 d24 d25 d26 d27 d28 d29 d30 d31 d32
      go_wp2_with fail
      go_ret
      exact ⟨rfl, hg.2.2.2.1⟩
    · skip
      refine wp_region_kp [[], [0], [1], [1, 2], [1], [1, 4], [1, 3, 5], [1, 6], [7], [8], [8], [8, 10], [8], [8, 12], [8, 11, 13], [8, 9, 14], [8, 15], [16], [17], [17, 18], [17, 19], [20], [20, 21], [17, 20, 22], [17, 23], [24], [24, 25], [24], [24, 27], [24, 26, 28], [17, 24, 29], [17, 30], [31]] (Held3 w a0 a1 a2 l0 l1 l2)
        [fun (y : Value) (u : World) => y = (.bool true : Value),
         fun (y : Value) (u : World) => y = (.bool true : Value),
         fun (y : Value) (u : World) => y = (.agg #[.int .i64 a0.k, .int .i64 a0.n, .string a0.s, l0] : Value),
         fun (y : Value) (u : World) => RdVal u y a0,
         fun (y : Value) (u : World) => y = (.agg #[.int .i64 a0.k, .int .i64 a0.n, .string a0.s, l0] : Value),
         fun (y : Value) (u : World) => RdVal u y a0,
         fun (y : Value) (u : World) => y = (.bool true : Value),
         fun (y : Value) (u : World) => y = (.bool true : Value),
         fun (y : Value) (u : World) => y = (.bool true : Value),
         fun (y : Value) (u : World) => y = (.bool false : Value),
         fun (y : Value) (u : World) => y = (.agg #[.int .i64 a1.k, .int .i64 a1.n, .string a1.s, l1] : Value),
         fun (y : Value) (u : World) => RdVal u y a1,
         fun (y : Value) (u : World) => y = (.agg #[.int .i64 a0.k, .int .i64 a0.n, .string a0.s, l0] : Value),
         fun (y : Value) (u : World) => RdVal u y a0,
         fun (y : Value) (u : World) => y = (.bool false : Value),
         fun (y : Value) (u : World) => y = (.bool true : Value),
         fun (y : Value) (u : World) => y = (.bool true : Value),
         fun (y : Value) (u : World) => y = (.bool true : Value),
         fun (y : Value) (u : World) => y = (.bool false : Value),
         fun (y : Value) (u : World) => y = (.bool true : Value),
         fun (y : Value) (u : World) => y = (.bool true : Value),
         fun (y : Value) (u : World) => y = (undef : Value),
         fun (y : Value) (u : World) => y = (undef : Value),
         fun (y : Value) (u : World) => y = (.bool true : Value),
         fun (y : Value) (u : World) => y = (.bool true : Value),
         fun (y : Value) (u : World) => y = (undef : Value),
         fun (y : Value) (u : World) => y = (undef : Value),
         fun (y : Value) (u : World) => y = (undef : Value),
         fun (y : Value) (u : World) => y = (undef : Value),
         fun (y : Value) (u : World) => y = (undef : Value),
         fun (y : Value) (u : World) => y = (.bool true : Value),
         fun (y : Value) (u : World) => y = (.bool true : Value),
         fun (y : Value) (u : World) => y = (.bool true : Value)]
        (by kernel_rfl) (by kernel_rfl) (by kernel_rfl) (by kernel_rfl) (H1.kp (Kp.refl _).drew) (fun _ _ hk h => h.kp hk) ⟨fun _ _ _ _ h => h, fun _ _ _ _ h => h, fun _ _ _ _ h => h, fun _ _ _ hk h => h.kp hk, fun _ _ _ _ h => h, fun _ _ _ hk h => h.kp hk, fun _ _ _ _ h => h, fun _ _ _ _ h => h, fun _ _ _ _ h => h, fun _ _ _ _ h => h, fun _ _ _ _ h => h, fun _ _ _ hk h => h.kp hk, fun _ _ _ _ h => h, fun _ _ _ hk h => h.kp hk, fun _ _ _ _ h => h, fun _ _ _ _ h => h, fun _ _ _ _ h => h, fun _ _ _ _ h => h, fun _ _ _ _ h => h, fun _ _ _ _ h => h, fun _ _ _ _ h => h, fun _ _ _ _ h => h, fun _ _ _ _ h => h, fun _ _ _ _ h => h, fun _ _ _ _ h => h, fun _ _ _ _ h => h, fun _ _ _ _ h => h, fun _ _ _ _ h => h, fun _ _ _ _ h => h, fun _ _ _ _ h => h, fun _ _ _ _ h => h, fun _ _ _ _ h => h, fun _ _ _ _ h => h, trivial⟩ ⟨?se0, ?se1, ?se2, ?se3, ?se4, ?se5, ?se6, ?se7, ?se8, ?se9, ?se10, ?se11, ?se12, ?se13, ?se14, ?se15, ?se16, ?se17, ?se18, ?se19, ?se20, ?se21, ?se22, ?se23, ?se24, ?se25, ?se26, ?se27, ?se28, ?se29, ?se30, ?se31, ?se32, trivial⟩ ?hEe
      case se0 =>
        intro x u hg hd K hK
        clear hd
        refine ⟨?_⟩
        simp only [putsFrom, Act.put, List.setIfInBounds_toArray, List.set_cons_zero, List.set_cons_succ, Nat.reduceAdd] at hK ⊢
        go_simp
        go_at_call 31
        have hc := shown_any u
        refine hc.mono ?_
        clear hc
        rintro e u' ⟨rfl, hk⟩
        dsimp only
        exact hK.out _ _ hk rfl
      case se1 =>
        intro x u hg hd K hK
        have d0 : (x 0) = .bool true := And.left hd
        clear hd
        refine ⟨?_⟩
        simp only [putsFrom, Act.put, List.setIfInBounds_toArray, List.set_cons_zero, List.set_cons_succ, Nat.reduceAdd, d0] at hK ⊢
        go_simp
        exact hK.out _ _ (Kp.refl _) rfl
      case se2 =>
        intro x u hg hd K hK
        have d1 : (x 1) = .bool true := And.left hd
        clear hd
        refine ⟨?_⟩
        simp only [putsFrom, Act.put, List.setIfInBounds_toArray, List.set_cons_zero, List.set_cons_succ, Nat.reduceAdd, d1] at hK ⊢
        go_simp
        exact hK.out _ _ (Kp.refl _) rfl
      case se3 =>
        intro x u hg hd K hK
        have d1 : (x 1) = .bool true := And.left hd
        have d2 : (x 2) = .agg #[.int .i64 a0.k, .int .i64 a0.n, .string a0.s, l0] := And.left (And.right hd)
        clear hd
        refine ⟨?_⟩
        simp only [putsFrom, Act.put, List.setIfInBounds_toArray, List.set_cons_zero, List.set_cons_succ, Nat.reduceAdd, d1, d2] at hK ⊢
        go_simp
        go_at_call 29
        have hc := own_h hg R0
        refine hc.mono ?_
        clear hc
        rintro e u' ⟨v1, rfl, hr, hk⟩
        dsimp only
        exact hK.out _ _ hk hr
      case se4 =>
        intro x u hg hd K hK
        have d1 : (x 1) = .bool true := And.left hd
        clear hd
        refine ⟨?_⟩
        simp only [putsFrom, Act.put, List.setIfInBounds_toArray, List.set_cons_zero, List.set_cons_succ, Nat.reduceAdd, d1] at hK ⊢
        go_simp
        exact hK.out _ _ (Kp.refl _) rfl
      case se5 =>
        intro x u hg hd K hK
        have d1 : (x 1) = .bool true := And.left hd
        have d4 : (x 4) = .agg #[.int .i64 a0.k, .int .i64 a0.n, .string a0.s, l0] := And.left (And.right hd)
        clear hd
        refine ⟨?_⟩
        simp only [putsFrom, Act.put, List.setIfInBounds_toArray, List.set_cons_zero, List.set_cons_succ, Nat.reduceAdd, d1, d4] at hK ⊢
        go_simp
        go_at_call 29
        have hc := own_h hg R0
        refine hc.mono ?_
        clear hc
        rintro e u' ⟨v1, rfl, hr, hk⟩
        dsimp only
        exact hK.out _ _ hk hr
      case se6 =>
        intro x u hg hd K hK
        have d1 : (x 1) = .bool true := And.left hd
        have d3 : RdVal u (x 3) a0 := And.left (And.right hd)
        have d5 : RdVal u (x 5) a0 := And.left (And.right (And.right hd))
        clear hd
        refine ⟨?_⟩
        simp only [putsFrom, Act.put, List.setIfInBounds_toArray, List.set_cons_zero, List.set_cons_succ, Nat.reduceAdd, d1] at hK ⊢
        go_simp
        go_at_call 30
        have hc := same_is d3 (Kp.refl _) d5 s0
        refine hc.mono ?_
        clear hc
        rintro e u' ⟨rfl, hk⟩
        dsimp only
        exact hK.out _ _ hk rfl
      case se7 =>
        intro x u hg hd K hK
        have d1 : (x 1) = .bool true := And.left hd
        have d6 : (x 6) = .bool true := And.left (And.right hd)
        clear hd
        refine ⟨?_⟩
        simp only [putsFrom, Act.put, List.setIfInBounds_toArray, List.set_cons_zero, List.set_cons_succ, Nat.reduceAdd, d1, d6] at hK ⊢
        go_simp
        exact hK.out _ _ (Kp.refl _) rfl
      case se8 =>
        intro x u hg hd K hK
        have d7 : (x 7) = .bool true := And.left hd
        clear hd
        refine ⟨?_⟩
        simp only [putsFrom, Act.put, List.setIfInBounds_toArray, List.set_cons_zero, List.set_cons_succ, Nat.reduceAdd, d7] at hK ⊢
        go_simp
        exact hK.out _ _ (Kp.refl _) rfl
      case se9 =>
        intro x u hg hd K hK
        have d8 : (x 8) = .bool true := And.left hd
        clear hd
        refine ⟨?_⟩
        simp only [putsFrom, Act.put, List.setIfInBounds_toArray, List.set_cons_zero, List.set_cons_succ, Nat.reduceAdd, d8] at hK ⊢
        go_simp
        exact hK.out _ _ (Kp.refl _) rfl
      case se10 =>
        intro x u hg hd K hK
        have d8 : (x 8) = .bool true := And.left hd
        clear hd
        refine ⟨?_⟩
        simp only [putsFrom, Act.put, List.setIfInBounds_toArray, List.set_cons_zero, List.set_cons_succ, Nat.reduceAdd, d8] at hK ⊢
        go_simp
        exact hK.out _ _ (Kp.refl _) rfl
      case se11 =>
        intro x u hg hd K hK
        have d8 : (x 8) = .bool true := And.left hd
        have d10 : (x 10) = .agg #[.int .i64 a1.k, .int .i64 a1.n, .string a1.s, l1] := And.left (And.right hd)
        clear hd
        refine ⟨?_⟩
        simp only [putsFrom, Act.put, List.setIfInBounds_toArray, List.set_cons_zero, List.set_cons_succ, Nat.reduceAdd, d8, d10] at hK ⊢
        go_simp
        go_at_call 29
        have hc := own_h hg R1
        refine hc.mono ?_
        clear hc
        rintro e u' ⟨v1, rfl, hr, hk⟩
        dsimp only
        exact hK.out _ _ hk hr
      case se12 =>
        intro x u hg hd K hK
        have d8 : (x 8) = .bool true := And.left hd
        clear hd
        refine ⟨?_⟩
        simp only [putsFrom, Act.put, List.setIfInBounds_toArray, List.set_cons_zero, List.set_cons_succ, Nat.reduceAdd, d8] at hK ⊢
        go_simp
        exact hK.out _ _ (Kp.refl _) rfl
      case se13 =>
        intro x u hg hd K hK
        have d8 : (x 8) = .bool true := And.left hd
        have d12 : (x 12) = .agg #[.int .i64 a0.k, .int .i64 a0.n, .string a0.s, l0] := And.left (And.right hd)
        clear hd
        refine ⟨?_⟩
        simp only [putsFrom, Act.put, List.setIfInBounds_toArray, List.set_cons_zero, List.set_cons_succ, Nat.reduceAdd, d8, d12] at hK ⊢
        go_simp
        go_at_call 29
        have hc := own_h hg R0
        refine hc.mono ?_
        clear hc
        rintro e u' ⟨v1, rfl, hr, hk⟩
        dsimp only
        exact hK.out _ _ hk hr
      case se14 =>
        intro x u hg hd K hK
        have d8 : (x 8) = .bool true := And.left hd
        have d11 : RdVal u (x 11) a1 := And.left (And.right hd)
        have d13 : RdVal u (x 13) a0 := And.left (And.right (And.right hd))
        clear hd
        refine ⟨?_⟩
        simp only [putsFrom, Act.put, List.setIfInBounds_toArray, List.set_cons_zero, List.set_cons_succ, Nat.reduceAdd, d8] at hK ⊢
        go_simp
        go_at_call 30
        have hc := same_is d11 (Kp.refl _) d13 s3
        refine hc.mono ?_
        clear hc
        rintro e u' ⟨rfl, hk⟩
        dsimp only
        exact hK.out _ _ hk rfl
      case se15 =>
        intro x u hg hd K hK
        have d8 : (x 8) = .bool true := And.left hd
        have d9 : (x 9) = .bool false := And.left (And.right hd)
        have d14 : (x 14) = .bool false := And.left (And.right (And.right hd))
        clear hd
        refine ⟨?_⟩
        simp only [putsFrom, Act.put, List.setIfInBounds_toArray, List.set_cons_zero, List.set_cons_succ, Nat.reduceAdd, d8, d9, d14] at hK ⊢
        go_simp
        exact hK.out _ _ (Kp.refl _) rfl
      case se16 =>
        intro x u hg hd K hK
        have d8 : (x 8) = .bool true := And.left hd
        have d15 : (x 15) = .bool true := And.left (And.right hd)
        clear hd
        refine ⟨?_⟩
        simp only [putsFrom, Act.put, List.setIfInBounds_toArray, List.set_cons_zero, List.set_cons_succ, Nat.reduceAdd, d8, d15] at hK ⊢
        go_simp
        exact hK.out _ _ (Kp.refl _) rfl
      case se17 =>
        intro x u hg hd K hK
        have d16 : (x 16) = .bool true := And.left hd
        clear hd
        refine ⟨?_⟩
        simp only [putsFrom, Act.put, List.setIfInBounds_toArray, List.set_cons_zero, List.set_cons_succ, Nat.reduceAdd, d16] at hK ⊢
        go_simp
        exact hK.out _ _ (Kp.refl _) rfl
      case se18 =>
        intro x u hg hd K hK
        have d17 : (x 17) = .bool true := And.left hd
        clear hd
        refine ⟨?_⟩
        simp only [putsFrom, Act.put, List.setIfInBounds_toArray, List.set_cons_zero, List.set_cons_succ, Nat.reduceAdd, d17] at hK ⊢
        go_simp
        exact hK.out _ _ (Kp.refl _) rfl
      case se19 =>
        intro x u hg hd K hK
        have d17 : (x 17) = .bool true := And.left hd
        have d18 : (x 18) = .bool false := And.left (And.right hd)
        clear hd
        refine ⟨?_⟩
        simp only [putsFrom, Act.put, List.setIfInBounds_toArray, List.set_cons_zero, List.set_cons_succ, Nat.reduceAdd, d17, d18] at hK ⊢
        go_simp
        exact hK.out _ _ (Kp.refl _) rfl
      case se20 =>
        intro x u hg hd K hK
        have d17 : (x 17) = .bool true := And.left hd
        have d19 : (x 19) = .bool true := And.left (And.right hd)
        clear hd
        refine ⟨?_⟩
        simp only [putsFrom, Act.put, List.setIfInBounds_toArray, List.set_cons_zero, List.set_cons_succ, Nat.reduceAdd, d17, d19] at hK ⊢
        go_simp
        exact hK.out _ _ (Kp.refl _) rfl
      case se21 =>
        intro x u hg hd K hK
        have d20 : (x 20) = .bool true := And.left hd
        clear hd
        refine ⟨?_⟩
        simp only [putsFrom, Act.put, List.setIfInBounds_toArray, List.set_cons_zero, List.set_cons_succ, Nat.reduceAdd, d20] at hK ⊢
        go_simp
        exact hK.out _ _ (Kp.refl _) rfl
      case se22 =>
        intro x u hg hd K hK
        have d20 : (x 20) = .bool true := And.left hd
        have d21 : (x 21) = undef := And.left (And.right hd)
        clear hd
        refine ⟨?_⟩
        simp only [putsFrom, Act.put, List.setIfInBounds_toArray, List.set_cons_zero, List.set_cons_succ, Nat.reduceAdd, d20, d21] at hK ⊢
        go_simp
        exact hK.out _ _ (Kp.refl _) rfl
      case se23 =>
        intro x u hg hd K hK
        have d17 : (x 17) = .bool true := And.left hd
        have d20 : (x 20) = .bool true := And.left (And.right hd)
        have d22 : (x 22) = undef := And.left (And.right (And.right hd))
        clear hd
        refine ⟨?_⟩
        simp only [putsFrom, Act.put, List.setIfInBounds_toArray, List.set_cons_zero, List.set_cons_succ, Nat.reduceAdd, d17, d20, d22] at hK ⊢
        go_simp
        exact hK.out _ _ (Kp.refl _) rfl
      case se24 =>
        intro x u hg hd K hK
        have d17 : (x 17) = .bool true := And.left hd
        have d23 : (x 23) = .bool true := And.left (And.right hd)
        clear hd
        refine ⟨?_⟩
        simp only [putsFrom, Act.put, List.setIfInBounds_toArray, List.set_cons_zero, List.set_cons_succ, Nat.reduceAdd, d17, d23] at hK ⊢
        go_simp
        exact hK.out _ _ (Kp.refl _) rfl
      case se25 =>
        intro x u hg hd K hK
        have d24 : (x 24) = .bool true := And.left hd
        clear hd
        refine ⟨?_⟩
        simp only [putsFrom, Act.put, List.setIfInBounds_toArray, List.set_cons_zero, List.set_cons_succ, Nat.reduceAdd, d24] at hK ⊢
        go_simp
        exact hK.out _ _ (Kp.refl _) rfl
      case se26 =>
        intro x u hg hd K hK
        have d24 : (x 24) = .bool true := And.left hd
        have d25 : (x 25) = undef := And.left (And.right hd)
        clear hd
        refine ⟨?_⟩
        simp only [putsFrom, Act.put, List.setIfInBounds_toArray, List.set_cons_zero, List.set_cons_succ, Nat.reduceAdd, d24, d25] at hK ⊢
        go_simp
        exact hK.out _ _ (Kp.refl _) rfl
      case se27 =>
        intro x u hg hd K hK
        have d24 : (x 24) = .bool true := And.left hd
        clear hd
        refine ⟨?_⟩
        simp only [putsFrom, Act.put, List.setIfInBounds_toArray, List.set_cons_zero, List.set_cons_succ, Nat.reduceAdd, d24] at hK ⊢
        go_simp
        exact hK.out _ _ (Kp.refl _) rfl
      case se28 =>
        intro x u hg hd K hK
        have d24 : (x 24) = .bool true := And.left hd
        have d27 : (x 27) = undef := And.left (And.right hd)
        clear hd
        refine ⟨?_⟩
        simp only [putsFrom, Act.put, List.setIfInBounds_toArray, List.set_cons_zero, List.set_cons_succ, Nat.reduceAdd, d24, d27] at hK ⊢
        go_simp
        exact hK.out _ _ (Kp.refl _) rfl
      case se29 =>
        intro x u hg hd K hK
        have d24 : (x 24) = .bool true := And.left hd
        have d26 : (x 26) = undef := And.left (And.right hd)
        have d28 : (x 28) = undef := And.left (And.right (And.right hd))
        clear hd
        refine ⟨?_⟩
        simp only [putsFrom, Act.put, List.setIfInBounds_toArray, List.set_cons_zero, List.set_cons_succ, Nat.reduceAdd, d24, d26, d28] at hK ⊢
        go_simp
        exact hK.out _ _ (Kp.refl _) rfl
      case se30 =>
        intro x u hg hd K hK
        have d17 : (x 17) = .bool true := And.left hd
        have d24 : (x 24) = .bool true := And.left (And.right hd)
        have d29 : (x 29) = undef := And.left (And.right (And.right hd))
        clear hd
        refine ⟨?_⟩
        simp only [putsFrom, Act.put, List.setIfInBounds_toArray, List.set_cons_zero, List.set_cons_succ, Nat.reduceAdd, d17, d24, d29] at hK ⊢
        go_simp
        exact hK.out _ _ (Kp.refl _) rfl
      case se31 =>
        intro x u hg hd K hK
        have d17 : (x 17) = .bool true := And.left hd
        have d30 : (x 30) = .bool true := And.left (And.right hd)
        clear hd
        refine ⟨?_⟩
        simp only [putsFrom, Act.put, List.setIfInBounds_toArray, List.set_cons_zero, List.set_cons_succ, Nat.reduceAdd, d17, d30] at hK ⊢
        go_simp
        exact hK.out _ _ (Kp.refl _) rfl
      case se32 =>
        intro x u hg hd K hK
        have d31 : (x 31) = .bool true := And.left hd
        clear hd
        refine ⟨?_⟩
        simp only [putsFrom, Act.put, List.setIfInBounds_toArray, List.set_cons_zero, List.set_cons_succ, Nat.reduceAdd, d31] at hK ⊢
        go_simp
        exact hK.out _ _ (Kp.refl _) rfl
      intro x u hg he
      have d0 : (x 0) = .bool true := And.left he
      have d1 : (x 1) = .bool true := And.left (And.right he)
      have d2 : (x 2) = .agg #[.int .i64 a0.k, .int .i64 a0.n, .string a0.s, l0] := And.left (And.right (And.right he))
      have d3 : RdVal u (x 3) a0 := And.left (And.right (And.right (And.right he)))
      have d4 : (x 4) = .agg #[.int .i64 a0.k, .int .i64 a0.n, .string a0.s, l0] := And.left (And.right (And.right (And.right (And.right he))))
      have d5 : RdVal u (x 5) a0 := And.left (And.right (And.right (And.right (And.right (And.right he)))))
      have d6 : (x 6) = .bool true := And.left (And.right (And.right (And.right (And.right (And.right (And.right he))))))
      have d7 : (x 7) = .bool true := And.left (And.right (And.right (And.right (And.right (And.right (And.right (And.right he)))))))
      have d8 : (x 8) = .bool true := And.left (And.right (And.right (And.right (And.right (And.right (And.right (And.right (And.right he))))))))
      have d9 : (x 9) = .bool false := And.left (And.right (And.right (And.right (And.right (And.right (And.right (And.right (And.right (And.right he)))))))))
      have d10 : (x 10) = .agg #[.int .i64 a1.k, .int .i64 a1.n, .string a1.s, l1] := And.left (And.right (And.right (And.right (And.right (And.right (And.right (And.right (And.right (And.right (And.right he))))))))))
      have d11 : RdVal u (x 11) a1 := And.left (And.right (And.right (And.right (And.right (And.right (And.right (And.right (And.right (And.right (And.right (And.right he)))))))))))
      have d12 : (x 12) = .agg #[.int .i64 a0.k, .int .i64 a0.n, .string a0.s, l0] := And.left (And.right (And.right (And.right (And.right (And.right (And.right (And.right (And.right (And.right (And.right (And.right (And.right he))))))))))))
      have d13 : RdVal u (x 13) a0 := And.left (And.right (And.right (And.right (And.right (And.right (And.right (And.right (And.right (And.right (And.right (And.right (And.right (And.right he)))))))))))))
      have d14 : (x 14) = .bool false := And.left (And.right (And.right (And.right (And.right (And.right (And.right (And.right (And.right (And.right (And.right (And.right (And.right (And.right (And.right he))))))))))))))
      have d15 : (x 15) = .bool true := And.left (And.right (And.right (And.right (And.right (And.right (And.right (And.right (And.right (And.right (And.right (And.right (And.right (And.right (And.right (And.right he)))))))))))))))
      have d16 : (x 16) = .bool true := And.left (And.right (And.right (And.right (And.right (And.right (And.right (And.right (And.right (And.right (And.right (And.right (And.right (And.right (And.right (And.right (And.right he))))))))))))))))
      have d17 : (x 17) = .bool true := And.left (And.right (And.right (And.right (And.right (And.right (And.right (And.right (And.right (And.right (And.right (And.right (And.right (And.right (And.right (And.right (And.right (And.right he)))))))))))))))))
      have d18 : (x 18) = .bool false := And.left (And.right (And.right (And.right (And.right (And.right (And.right (And.right (And.right (And.right (And.right (And.right (And.right (And.right (And.right (And.right (And.right (And.right (And.right he))))))))))))))))))
      have d19 : (x 19) = .bool true := And.left (And.right (And.right (And.right (And.right (And.right (And.right (And.right (And.right (And.right (And.right (And.right (And.right (And.right (And.right (And.right (And.right (And.right (And.right (And.right he)))))))))))))))))))
      have d20 : (x 20) = .bool true := And.left (And.right (And.right (And.right (And.right (And.right (And.right (And.right (And.right (And.right (And.right (And.right (And.right (And.right (And.right (And.right (And.right (And.right (And.right (And.right (And.right he))))))))))))))))))))
      have d21 : (x 21) = undef := And.left (And.right (And.right (And.right (And.right (And.right (And.right (And.right (And.right (And.right (And.right (And.right (And.right (And.right (And.right (And.right (And.right (And.right (And.right (And.right (And.right (And.right he)))))))))))))))))))))
      have d22 : (x 22) = undef := And.left (And.right (And.right (And.right (And.right (And.right (And.right (And.right (And.right (And.right (And.right (And.right (And.right (And.right (And.right (And.right (And.right (And.right (And.right (And.right (And.right (And.right (And.right he))))))))))))))))))))))
      have d23 : (x 23) = .bool true := And.left (And.right (And.right (And.right (And.right (And.right (And.right (And.right (And.right (And.right (And.right (And.right (And.right (And.right (And.right (And.right (And.right (And.right (And.right (And.right (And.right (And.right (And.right (And.right he)))))))))))))))))))))))
      have d24 : (x 24) = .bool true := And.left (And.right (And.right (And.right (And.right (And.right (And.right (And.right (And.right (And.right (And.right (And.right (And.right (And.right (And.right (And.right (And.right (And.right (And.right (And.right (And.right (And.right (And.right (And.right (And.right he))))))))))))))))))))))))
      have d25 : (x 25) = undef := And.left (And.right (And.right (And.right (And.right (And.right (And.right (And.right (And.right (And.right (And.right (And.right (And.right (And.right (And.right (And.right (And.right (And.right (And.right (And.right (And.right (And.right (And.right (And.right (And.right (And.right he)))))))))))))))))))))))))
      have d26 : (x 26) = undef := And.left (And.right (And.right (And.right (And.right (And.right (And.right (And.right (And.right (And.right (And.right (And.right (And.right (And.right (And.right (And.right (And.right (And.right (And.right (And.right (And.right (And.right (And.right (And.right (And.right (And.right (And.right he))))))))))))))))))))))))))
      have d27 : (x 27) = undef := And.left (And.right (And.right (And.right (And.right (And.right (And.right (And.right (And.right (And.right (And.right (And.right (And.right (And.right (And.right (And.right (And.right (And.right (And.right (And.right (And.right (And.right (And.right (And.right (And.right (And.right (And.right (And.right he)))))))))))))))))))))))))))
      have d28 : (x 28) = undef := And.left (And.right (And.right (And.right (And.right (And.right (And.right (And.right (And.right (And.right (And.right (And.right (And.right (And.right (And.right (And.right (And.right (And.right (And.right (And.right (And.right (And.right (And.right (And.right (And.right (And.right (And.right (And.right (And.right he))))))))))))))))))))))))))))
      have d29 : (x 29) = undef := And.left (And.right (And.right (And.right (And.right (And.right (And.right (And.right (And.right (And.right (And.right (And.right (And.right (And.right (And.right (And.right (And.right (And.right (And.right (And.right (And.right (And.right (And.right (And.right (And.right (And.right (And.right (And.right (And.right (And.right he)))))))))))))))))))))))))))))
      have d30 : (x 30) = .bool true := And.left (And.right (And.right (And.right (And.right (And.right (And.right (And.right (And.right (And.right (And.right (And.right (And.right (And.right (And.right (And.right (And.right (And.right (And.right (And.right (And.right (And.right (And.right (And.right (And.right (And.right (And.right (And.right (And.right (And.right (And.right he))))))))))))))))))))))))))))))
      have d31 : (x 31) = .bool true := And.left (And.right (And.right (And.right (And.right (And.right (And.right (And.right (And.right (And.right (And.right (And.right (And.right (And.right (And.right (And.right (And.right (And.right (And.right (And.right (And.right (And.right (And.right (And.right (And.right (And.right (And.right (And.right (And.right (And.right (And.right (And.right he)))))))))))))))))))))))))))))))
      have d32 : (x 32) = .bool true := And.left (And.right (And.right (And.right (And.right (And.right (And.right (And.right (And.right (And.right (And.right (And.right (And.right (And.right (And.right (And.right (And.right (And.right (And.right (And.right (And.right (And.right (And.right (And.right (And.right (And.right (And.right (And.right (And.right (And.right (And.right (And.right (And.right he))))))))))))))))))))))))))))))))
      clear he
      refine ⟨?_⟩
      simp only [putsFrom, Act.put, List.setIfInBounds_toArray, List.set_cons_zero, List.set_cons_succ, Nat.reduceAdd, d0, d1, d2, d4, d6, d7, d8, d9, d10, d12, d14, d15, d16, d17, d18, d19, d20, d21, d22, d23, d24, d25, d26, d27, d28, d29, d30, d31, d32]
      clear d0 d1 d2 d4 d6 d7 d8 d9 d10 d12 d14 d15 d16 d17 d18 d19 d20 d21 d22 d23 d24 d25 d26 d27 d28 d29 d30 d31 d32
      go_wp2_with fail
      go_ret
      exact ⟨rfl, hg.2.2.2.1⟩

/-! ### The row's step (the guide's frame, written by program) -/
set_option maxRecDepth 100000 in
theorem lifted (os : Os) (started : os.Started) (H : Type) (enc : TypeId × Value → H) :
    ReturnsInHanded {} Try.checked os 10 .any (Rows.valueAlikeSpec.pre6 enc Try.prog Try.f10 Rows.valueAlikeRow.domain false) (Rows.valueAlikeSpec.post enc Try.prog Try.f10 false true false false) := by
  refine returnsInHanded_of_change_sized (C := Try.checked) own started (by kernel_rfl) Try.func10
    (ChangeSpec.witness6 (enc := enc) (C := Try.checked) false ⟨#[], #[.agg #[.int .i64 0, .int .i64 0, .string ⟨#[]⟩, .slice none 0 0], .agg #[.int .i64 0, .int .i64 0, .string ⟨#[]⟩, .slice none 0 0], .agg #[.int .i64 0, .int .i64 0, .string ⟨#[]⟩, .slice none 0 0]], []⟩ 8 (by kernel_rfl) (by kernel_rfl) (by kernel_rfl) (by kernel_rfl)) ?_
  intro W base args ds gs before hval0 hW _ hsz0 _
  have hsz : (DataW.weightsEach Try.prog (Try.f10.params.toList ++ Rows.valueAlikeSpec.plain.varTypes Try.prog) (ds ++ gs)).all (· ≤ reachBytes) = true := hsz0
  clear hsz0
  have hval : ∀ (j : Nat) t v, Try.f10.params[j]? = some t → args[j]? = some v → Value.okWide Try.prog W .any base t v := hval0
  have hW' := hW
  obtain ⟨p, q, hA0, hV, rfl, hfz, hnd⟩ := hW
  have hA : DataW.TrodAll enc Try.prog W 0 (fun _ => true) true Try.f10.params.toList args.toList ds p := hA0
  rw [Try.params10] at hA hval hsz
  obtain ⟨v0, vs0, d0, ds0, p0, q0, hargs, rfl, rfl, h0, r0⟩ := trodAll_cons hA
  obtain ⟨v1, vs1, d1, ds1, p1, q1, rfl, rfl, rfl, h1, r1⟩ := trodAll_cons r0
  obtain ⟨v2, vs2, d2, ds2, p2, q2, rfl, rfl, rfl, h2, r2⟩ := trodAll_cons r1
  obtain ⟨rfl, rfl, rfl⟩ := trodAll_nil r2
  obtain rfl : args = #[v0, v1, v2] := by cases args; simp_all
  obtain ⟨rfl, rfl⟩ := trodVars_none hV
  have k0 := h0
  have lt0 : ∀ x ∈ p0, x.block < W.heap.size := by obtain ⟨m, hm⟩ := k0; exact DataW.trod_lt m _ _ _ hm
  have hz0 : ∀ n ∈ DataW.weights Try.prog 53 d0, n ≤ reachBytes := fun n hn => by
    have := List.all_eq_true.1 hsz _ (DataW.weights_mem_each (j := 0) rfl rfl n hn)
    simpa using this
  obtain ⟨a0, w0⟩ := open_value (hval 0 53 v0 rfl rfl) h0 hz0
  have k1 := h1
  have lt1 : ∀ x ∈ p1, x.block < W.heap.size := by obtain ⟨m, hm⟩ := k1; exact DataW.trod_lt m _ _ _ hm
  have hz1 : ∀ n ∈ DataW.weights Try.prog 53 d1, n ≤ reachBytes := fun n hn => by
    have := List.all_eq_true.1 hsz _ (DataW.weights_mem_each (j := 1) rfl rfl n hn)
    simpa using this
  obtain ⟨a1, w1⟩ := open_value (hval 1 53 v1 rfl rfl) h1 hz1
  have k2 := h2
  have lt2 : ∀ x ∈ p2, x.block < W.heap.size := by obtain ⟨m, hm⟩ := k2; exact DataW.trod_lt m _ _ _ hm
  have hz2 : ∀ n ∈ DataW.weights Try.prog 53 d2, n ≤ reachBytes := fun n hn => by
    have := List.all_eq_true.1 hsz _ (DataW.weights_mem_each (j := 2) rfl rfl n hn)
    simpa using this
  obtain ⟨a2, w2⟩ := open_value (hval 2 53 v2 rfl rfl) h2 hz2
  clear hA0 hval0
  simp only [List.append_nil] at hW'
  refine (walk v0 a0 v1 a1 v2 a2 W w0 w1 w2).mono fun e W' ⟨he, bel⟩ => ?_
  subst he
  exact ⟨_, rfl, _, _, _, [], _, [], hW', trodAll_mk1 (shut_bool Try.underlying4 _), (trodAll_cons_mk (Below.trod laidOut (by kernel_rfl) (of_decide_eq_true (by kernel_rfl)) k0 bel lt0) (trodAll_cons_mk (Below.trod laidOut (by kernel_rfl) (of_decide_eq_true (by kernel_rfl)) k1 bel lt1) (trodAll_cons_mk (Below.trod laidOut (by kernel_rfl) (of_decide_eq_true (by kernel_rfl)) k2 bel lt2) trodAll_mk0))), rfl, Below.frame bel _, fun h => by cases h⟩

theorem over : Rows.valueAlikeRow.holds Try.pinned (OpenSpec.ofChange Rows.valueAlikeSpec) :=
  OpenClaim.holds_of_wide 10 Try.f10 rfl rfl rfl rfl rfl rfl rfl ⟨rfl, rfl, rfl, rfl, rfl⟩ rfl rfl rfl rfl rfl (by kernel_rfl) Try.func10 (by kernel_rfl)
    (of_decide_eq_true (by kernel_rfl)) (by unfold Func.isWrapper; rw [if_neg (of_decide_eq_false (by kernel_rfl))]; exact ⟨rfl, rfl⟩)
    (fun os started H enc _ => lifted os started H enc)

/-- THE STATEMENT. -/
theorem proved : Rows.ValueAlikeSaid := over
#print axioms proved

end Go.Proofs.Ytffjfkmnlfndkaa.valueAlike
