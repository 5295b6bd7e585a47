/-
  The law ValueSeen answers true for all values. Condition: their bulk is at most 1048576 (the statement's own).
-/
import Derived.SizedLaws
import Derived.Deep.CondSized
import Derived.Test.YtffjfkmnlfndkaaRows
import Derived.Test.YtffjfkmnlfndkaaSeen
import Derived.Test.YtffjfkmnlfndkaaRegion
namespace Go.Proofs.Ytffjfkmnlfndkaa.valueSeen
open Go.ChangeShapes Go.WideShapes Go.ChangeAt Go.RowKit
open Go.ChangeMaps (open_string shut_string)
set_option linter.unusedVariables false

theorem own : ownKnob Try.prog.godebug = none := by kernel_rfl
theorem laidOut : laidOutB Try.prog = true := by kernel_rfl


set_option maxRecDepth 20000 in
set_option maxHeartbeats 2000000 in
theorem walk (v0 : Value) (a0 : ValM) (v1 : Value) (a1 : ValM) (w : World) (w0 : RdValU w v0 a0) (w1 : RdValU w v1 a1) :
    Calls Try.prog 13 #[v0, v1] w fun e w' => e = .returned (.bool true) ∧ Kp w w' := by
  obtain ⟨w0, b0⟩ := w0
  obtain ⟨w1, b1⟩ := w1
  obtain ⟨la, rfl, ha⟩ := id w0
  obtain ⟨lb, rfl, hb⟩ := id w1
  have Ra := hid w0; have Rb := hid w1
  have N0 : Hid (a0.l.length ≤ 1000000000000) := hid (by unfold bkVal at b0; omega)
  have N1 : Hid (a1.l.length ≤ 1000000000000) := hid (by unfold bkVal at b1; omega)
  have NP : Hid ((plainM a0).l.length ≤ 1000000000000) := hid (by have := plain_len a0; unfold bkVal at b0; omega)
  have SP : Hid (showM (plainM a0) = showM a0) := hid (plain_show a0)
  have SR : Hid (sameM (plainM a0) (plainM a0) = true) := hid (same_refl _)
  obtain ⟨mb, hmb⟩ : ∃ b, mayM a0 = b := ⟨_, rfl⟩
  have SM : Hid (mayM a0 = mb) := hid hmb
  have SMP : Hid (mayM (plainM a0) = mb) := hid ((plain_may a0).trans hmb)
  have SI : Hid (plainM (plainM a0) = plainM a0) := hid (plain_idem a0)
  obtain ⟨pm, hpm⟩ : ∃ p, plainM a0 = p := ⟨_, rfl⟩
  rw [hpm] at NP SP SR SMP SI
  have HPM := hid hpm
  clear ha hb b0 b1 w0 w1 hmb hpm
  go_enter Try.func13, Try.ntmps13
  go_wp2_with fail
  have F0 : Kp w ((w.alloc (.cells #[.int .i64 a0.k, .int .i64 a0.n, .string a0.s, la] 53)).alloc (.cells #[.int .i64 a1.k, .int .i64 a1.n, .string a1.s, lb] 53)) := ((Kp.refl _).alloc _).alloc _
  have hc := own_k Ra F0
  refine hc.mono ?_; clear hc
  rintro e w1 ⟨v1, rfl, h1, hk1⟩
  go_wp2_with fail
  have hc := plain_any _ a0 _ h1
  refine hc.mono ?_; clear hc
  rintro e w2 ⟨⟨Ap, cp, rfl, h2⟩, hk2⟩
  rw [HPM.out] at h2 ⊢
  have RP2 := hid h2.rd
  clear h1 h2
  go_wp2_with fail
  have hc := own_k RP2 ((Kp.refl w2).alloc (.cells #[.int .i64 pm.k, .int .i64 pm.n, .string pm.s, .slice Ap pm.l.length cp] 53))
  refine hc.mono ?_; clear hc
  rintro e w3 ⟨v3, rfl, h3, hk3⟩
  go_wp2_with fail
  have hc := plain_any _ pm _ h3
  refine hc.mono ?_; clear hc
  rintro e w4 ⟨⟨Aq, cq, rfl, h4⟩, hk4⟩
  rw [SI.out] at h4 ⊢
  have RQ4 := hid h4.rd
  clear h3 h4
  go_wp2_with fail
  have KP := (hk3.trans hk4).alloc (.cells #[.int .i64 pm.k, .int .i64 pm.n, .string pm.s, .slice Aq pm.l.length cq] 53)
  have K1 := hk1.trans hk2
  have KA := (K1.trans ((Kp.refl _).alloc (.cells #[.int .i64 pm.k, .int .i64 pm.n, .string pm.s, .slice Ap pm.l.length cp] 53))).trans KP
  have B0 : Boxed ((w.alloc (.cells #[.int .i64 a0.k, .int .i64 a0.n, .string a0.s, la] 53)).alloc (.cells #[.int .i64 a1.k, .int .i64 a1.n, .string a1.s, lb] 53)) w.heap.size a0 la := by simp [Boxed, go_sem, World.cell?_alloc_past]
  have B1 : Boxed ((w.alloc (.cells #[.int .i64 a0.k, .int .i64 a0.n, .string a0.s, la] 53)).alloc (.cells #[.int .i64 a1.k, .int .i64 a1.n, .string a1.s, lb] 53)) (w.heap.size + 1) a1 lb := by simp [Boxed, go_sem]
  have B2 : Boxed (w2.alloc (.cells #[.int .i64 pm.k, .int .i64 pm.n, .string pm.s, .slice Ap pm.l.length cp] 53)) w2.heap.size pm (.slice Ap pm.l.length cp) := by simp [Boxed, go_sem]
  have B3 : Boxed (w4.alloc (.cells #[.int .i64 pm.k, .int .i64 pm.n, .string pm.s, .slice Aq pm.l.length cq] 53)) w4.heap.size pm (.slice Aq pm.l.length cq) := by simp [Boxed, go_sem]
  have z1 : w.heap.size + 2 ≤ (w4.alloc (.cells #[.int .i64 pm.k, .int .i64 pm.n, .string pm.s, .slice Aq pm.l.length cq] 53)).heap.size := by have := KA.le; simpa using this
  have z2 : w2.heap.size + 1 ≤ (w4.alloc (.cells #[.int .i64 pm.k, .int .i64 pm.n, .string pm.s, .slice Aq pm.l.length cq] 53)).heap.size := by have := KP.le; simpa using this
  have z3 : w4.heap.size < (w4.alloc (.cells #[.int .i64 pm.k, .int .i64 pm.n, .string pm.s, .slice Aq pm.l.length cq] 53)).heap.size := by simp
  have F : Held4 (w4.alloc (.cells #[.int .i64 pm.k, .int .i64 pm.n, .string pm.s, .slice Aq pm.l.length cq] 53)) w.heap.size (w.heap.size + 1) w2.heap.size w4.heap.size a0 a1 pm pm la lb (.slice Ap pm.l.length cp) (.slice Aq pm.l.length cq) (w4.alloc (.cells #[.int .i64 pm.k, .int .i64 pm.n, .string pm.s, .slice Aq pm.l.length cq] 53)) :=
    ⟨B0.kp KA (by simp; omega), B1.kp KA (by simp), B2.kp KP (by simp), B3, Kp.refl _, by omega, by omega, by omega, z3⟩
  have R0 := hid (Ra.out.kp (F0.trans KA))
  have R1 := hid (Rb.out.kp (F0.trans KA))
  have RP := hid (RP2.out.kp (((Kp.refl _).alloc (.cells #[.int .i64 pm.k, .int .i64 pm.n, .string pm.s, .slice Ap pm.l.length cp] 53)).trans KP))
  have RQ := hid (RQ4.out.kp ((Kp.refl _).alloc (.cells #[.int .i64 pm.k, .int .i64 pm.n, .string pm.s, .slice Aq pm.l.length cq] 53)))
  have KW := F0.trans KA
  clear B0 B1 B2 B3 z1 z2 z3 KA K1 KP hk1 hk2 hk3 hk4 F0 RP2 RQ4 Ra Rb SI HPM
  generalize (w4.alloc (.cells #[.int .i64 pm.k, .int .i64 pm.n, .string pm.s, .slice Aq pm.l.length cq] 53)) = W1 at F R0 R1 RP RQ KW ⊢
  obtain ⟨b, hb⟩ : ∃ b, sameM a0 a1 = b := ⟨_, rfl⟩
  have hs := hid hb
  have SEb : Hid (b = true → showM a0 = showM a1) := hid fun h => same_show (hb.trans h)
  clear hb
  cases b with
  | true =>
    have SE := hid (SEb.out rfl)
    clear SEb
    refine wp_region_kp [[], [0], [1], [2], [2, 3], [2], [2, 5], [2, 4, 6], [2, 7], [8], [8, 9], [8, 10], [8], [8, 12], [8, 13], [8, 11, 14], [2, 8, 15], [2, 16]] (Held4 W1 w.heap.size (w.heap.size + 1) w2.heap.size w4.heap.size a0 a1 pm pm la lb (.slice Ap pm.l.length cp) (.slice Aq pm.l.length cq))
      [fun (y : Value) (u : World) => y = (.bool true : Value),
       fun (y : Value) (u : World) => y = (.bool false : Value),
       fun (y : Value) (u : World) => y = (.bool false : Value),
       fun (y : Value) (u : World) => y = (.agg #[.int .i64 a0.k, .int .i64 a0.n, .string a0.s, la] : Value),
       fun (y : Value) (u : World) => RdVal u y a0,
       fun (y : Value) (u : World) => y = (.agg #[.int .i64 a1.k, .int .i64 a1.n, .string a1.s, lb] : Value),
       fun (y : Value) (u : World) => RdVal u y a1,
       fun (y : Value) (u : World) => y = (.bool true : Value),
       fun (y : Value) (u : World) => y = (.bool true : Value),
       fun (y : Value) (u : World) => y = (.agg #[.int .i64 a0.k, .int .i64 a0.n, .string a0.s, la] : Value),
       fun (y : Value) (u : World) => RdVal u y a0,
       fun (y : Value) (u : World) => y = (.string (showM a1) : Value),
       fun (y : Value) (u : World) => y = (.agg #[.int .i64 a1.k, .int .i64 a1.n, .string a1.s, lb] : Value),
       fun (y : Value) (u : World) => RdVal u y a1,
       fun (y : Value) (u : World) => y = (.string (showM a1) : Value),
       fun (y : Value) (u : World) => y = (.bool false : Value),
       fun (y : Value) (u : World) => y = (.bool false : Value),
       fun (y : Value) (u : World) => y = (.bool false : Value)]
      (by kernel_rfl) (by kernel_rfl) (by kernel_rfl) (by kernel_rfl) (F.kp (Kp.refl _).drew) (fun _ _ hk h => h.kp hk) ⟨fun _ _ _ _ h => h, fun _ _ _ _ h => h, fun _ _ _ _ h => h, fun _ _ _ _ h => h, fun _ _ _ hk h => h.kp hk, fun _ _ _ _ h => h, fun _ _ _ hk h => h.kp hk, fun _ _ _ _ h => h, fun _ _ _ _ h => h, fun _ _ _ _ h => h, fun _ _ _ hk h => h.kp hk, fun _ _ _ _ h => h, fun _ _ _ _ h => h, fun _ _ _ hk h => h.kp hk, fun _ _ _ _ h => h, fun _ _ _ _ h => h, fun _ _ _ _ h => h, fun _ _ _ _ h => h, trivial⟩ ⟨?sb0, ?sb1, ?sb2, ?sb3, ?sb4, ?sb5, ?sb6, ?sb7, ?sb8, ?sb9, ?sb10, ?sb11, ?sb12, ?sb13, ?sb14, ?sb15, ?sb16, ?sb17, trivial⟩ ?hEb
    case sb0 =>
      intro x u hg hd K hK
      clear hd
      refine ⟨?_⟩
      simp only [putsFrom, Act.put, List.setIfInBounds_toArray, List.set_cons_zero, List.set_cons_succ, Nat.reduceAdd] at hK ⊢
      go_simp
      go_at_call 31
      have hc := shown_any u
      refine hc.mono ?_
      clear hc
      rintro e u' ⟨rfl, hk⟩
      dsimp only
      exact hK.out _ _ hk rfl
    case sb1 =>
      intro x u hg hd K hK
      have d0 : (x 0) = .bool true := And.left hd
      clear hd
      refine ⟨?_⟩
      simp only [putsFrom, Act.put, List.setIfInBounds_toArray, List.set_cons_zero, List.set_cons_succ, Nat.reduceAdd, d0] at hK ⊢
      go_simp
      exact hK.out _ _ (Kp.refl _) rfl
    case sb2 =>
      intro x u hg hd K hK
      have d1 : (x 1) = .bool false := And.left hd
      clear hd
      refine ⟨?_⟩
      simp only [putsFrom, Act.put, List.setIfInBounds_toArray, List.set_cons_zero, List.set_cons_succ, Nat.reduceAdd, d1] at hK ⊢
      go_simp
      exact hK.out _ _ (Kp.refl _) rfl
    case sb3 =>
      intro x u hg hd K hK
      have d2 : (x 2) = .bool false := And.left hd
      clear hd
      refine ⟨?_⟩
      simp only [putsFrom, Act.put, List.setIfInBounds_toArray, List.set_cons_zero, List.set_cons_succ, Nat.reduceAdd, d2] at hK ⊢
      go_simp
      exact hK.out _ _ (Kp.refl _) rfl
    case sb4 =>
      intro x u hg hd K hK
      have d2 : (x 2) = .bool false := And.left hd
      have d3 : (x 3) = .agg #[.int .i64 a0.k, .int .i64 a0.n, .string a0.s, la] := And.left (And.right hd)
      clear hd
      refine ⟨?_⟩
      simp only [putsFrom, Act.put, List.setIfInBounds_toArray, List.set_cons_zero, List.set_cons_succ, Nat.reduceAdd, d2, d3] at hK ⊢
      go_simp
      go_at_call 29
      have hc := own_k R0 hg.k
      refine hc.mono ?_
      clear hc
      rintro e u' ⟨v1, rfl, hr, hk⟩
      dsimp only
      exact hK.out _ _ hk hr
    case sb5 =>
      intro x u hg hd K hK
      have d2 : (x 2) = .bool false := And.left hd
      clear hd
      refine ⟨?_⟩
      simp only [putsFrom, Act.put, List.setIfInBounds_toArray, List.set_cons_zero, List.set_cons_succ, Nat.reduceAdd, d2] at hK ⊢
      go_simp
      exact hK.out _ _ (Kp.refl _) rfl
    case sb6 =>
      intro x u hg hd K hK
      have d2 : (x 2) = .bool false := And.left hd
      have d5 : (x 5) = .agg #[.int .i64 a1.k, .int .i64 a1.n, .string a1.s, lb] := And.left (And.right hd)
      clear hd
      refine ⟨?_⟩
      simp only [putsFrom, Act.put, List.setIfInBounds_toArray, List.set_cons_zero, List.set_cons_succ, Nat.reduceAdd, d2, d5] at hK ⊢
      go_simp
      go_at_call 29
      have hc := own_k R1 hg.k
      refine hc.mono ?_
      clear hc
      rintro e u' ⟨v1, rfl, hr, hk⟩
      dsimp only
      exact hK.out _ _ hk hr
    case sb7 =>
      intro x u hg hd K hK
      have d2 : (x 2) = .bool false := And.left hd
      have d4 : RdVal u (x 4) a0 := And.left (And.right hd)
      have d6 : RdVal u (x 6) a1 := And.left (And.right (And.right hd))
      clear hd
      refine ⟨?_⟩
      simp only [putsFrom, Act.put, List.setIfInBounds_toArray, List.set_cons_zero, List.set_cons_succ, Nat.reduceAdd, d2] at hK ⊢
      go_simp
      go_at_call 30
      have hc := same_is d4 (Kp.refl _) d6 hs
      refine hc.mono ?_
      clear hc
      rintro e u' ⟨rfl, hk⟩
      dsimp only
      exact hK.out _ _ hk rfl
    case sb8 =>
      intro x u hg hd K hK
      have d2 : (x 2) = .bool false := And.left hd
      have d7 : (x 7) = .bool true := And.left (And.right hd)
      clear hd
      refine ⟨?_⟩
      simp only [putsFrom, Act.put, List.setIfInBounds_toArray, List.set_cons_zero, List.set_cons_succ, Nat.reduceAdd, d2, d7] at hK ⊢
      go_simp
      exact hK.out _ _ (Kp.refl _) rfl
    case sb9 =>
      intro x u hg hd K hK
      have d8 : (x 8) = .bool true := And.left hd
      clear hd
      refine ⟨?_⟩
      simp only [putsFrom, Act.put, List.setIfInBounds_toArray, List.set_cons_zero, List.set_cons_succ, Nat.reduceAdd, d8] at hK ⊢
      go_simp
      exact hK.out _ _ (Kp.refl _) rfl
    case sb10 =>
      intro x u hg hd K hK
      have d8 : (x 8) = .bool true := And.left hd
      have d9 : (x 9) = .agg #[.int .i64 a0.k, .int .i64 a0.n, .string a0.s, la] := And.left (And.right hd)
      clear hd
      refine ⟨?_⟩
      simp only [putsFrom, Act.put, List.setIfInBounds_toArray, List.set_cons_zero, List.set_cons_succ, Nat.reduceAdd, d8, d9] at hK ⊢
      go_simp
      go_at_call 29
      have hc := own_k R0 hg.k
      refine hc.mono ?_
      clear hc
      rintro e u' ⟨v1, rfl, hr, hk⟩
      dsimp only
      exact hK.out _ _ hk hr
    case sb11 =>
      intro x u hg hd K hK
      have d8 : (x 8) = .bool true := And.left hd
      have d10 : RdVal u (x 10) a0 := And.left (And.right hd)
      clear hd
      refine ⟨?_⟩
      simp only [putsFrom, Act.put, List.setIfInBounds_toArray, List.set_cons_zero, List.set_cons_succ, Nat.reduceAdd, d8] at hK ⊢
      go_simp
      go_at_call 34
      have hc := show_is d10 N0 SE
      refine hc.mono ?_
      clear hc
      rintro e u' ⟨rfl, hk⟩
      dsimp only
      exact hK.out _ _ hk rfl
    case sb12 =>
      intro x u hg hd K hK
      have d8 : (x 8) = .bool true := And.left hd
      clear hd
      refine ⟨?_⟩
      simp only [putsFrom, Act.put, List.setIfInBounds_toArray, List.set_cons_zero, List.set_cons_succ, Nat.reduceAdd, d8] at hK ⊢
      go_simp
      exact hK.out _ _ (Kp.refl _) rfl
    case sb13 =>
      intro x u hg hd K hK
      have d8 : (x 8) = .bool true := And.left hd
      have d12 : (x 12) = .agg #[.int .i64 a1.k, .int .i64 a1.n, .string a1.s, lb] := And.left (And.right hd)
      clear hd
      refine ⟨?_⟩
      simp only [putsFrom, Act.put, List.setIfInBounds_toArray, List.set_cons_zero, List.set_cons_succ, Nat.reduceAdd, d8, d12] at hK ⊢
      go_simp
      go_at_call 29
      have hc := own_k R1 hg.k
      refine hc.mono ?_
      clear hc
      rintro e u' ⟨v1, rfl, hr, hk⟩
      dsimp only
      exact hK.out _ _ hk hr
    case sb14 =>
      intro x u hg hd K hK
      have d8 : (x 8) = .bool true := And.left hd
      have d13 : RdVal u (x 13) a1 := And.left (And.right hd)
      clear hd
      refine ⟨?_⟩
      simp only [putsFrom, Act.put, List.setIfInBounds_toArray, List.set_cons_zero, List.set_cons_succ, Nat.reduceAdd, d8] at hK ⊢
      go_simp
      go_at_call 34
      have hc := show_is d13 N1 (hid rfl)
      refine hc.mono ?_
      clear hc
      rintro e u' ⟨rfl, hk⟩
      dsimp only
      exact hK.out _ _ hk rfl
    case sb15 =>
      intro x u hg hd K hK
      have d8 : (x 8) = .bool true := And.left hd
      have d11 : (x 11) = .string (showM a1) := And.left (And.right hd)
      have d14 : (x 14) = .string (showM a1) := And.left (And.right (And.right hd))
      clear hd
      refine ⟨?_⟩
      simp only [putsFrom, Act.put, List.setIfInBounds_toArray, List.set_cons_zero, List.set_cons_succ, Nat.reduceAdd, d8, d11, d14] at hK ⊢
      go_simp
      exact hK.out _ _ (Kp.refl _) rfl
    case sb16 =>
      intro x u hg hd K hK
      have d2 : (x 2) = .bool false := And.left hd
      have d8 : (x 8) = .bool true := And.left (And.right hd)
      have d15 : (x 15) = .bool false := And.left (And.right (And.right hd))
      clear hd
      refine ⟨?_⟩
      simp only [putsFrom, Act.put, List.setIfInBounds_toArray, List.set_cons_zero, List.set_cons_succ, Nat.reduceAdd, d2, d8, d15] at hK ⊢
      go_simp
      exact hK.out _ _ (Kp.refl _) rfl
    case sb17 =>
      intro x u hg hd K hK
      have d2 : (x 2) = .bool false := And.left hd
      have d16 : (x 16) = .bool false := And.left (And.right hd)
      clear hd
      refine ⟨?_⟩
      simp only [putsFrom, Act.put, List.setIfInBounds_toArray, List.set_cons_zero, List.set_cons_succ, Nat.reduceAdd, d2, d16] at hK ⊢
      go_simp
      exact hK.out _ _ (Kp.refl _) rfl
    intro x u hg he
    have d0 : (x 0) = .bool true := And.left he
    have d1 : (x 1) = .bool false := And.left (And.right he)
    have d2 : (x 2) = .bool false := And.left (And.right (And.right he))
    have d3 : (x 3) = .agg #[.int .i64 a0.k, .int .i64 a0.n, .string a0.s, la] := And.left (And.right (And.right (And.right he)))
    have d4 : RdVal u (x 4) a0 := And.left (And.right (And.right (And.right (And.right he))))
    have d5 : (x 5) = .agg #[.int .i64 a1.k, .int .i64 a1.n, .string a1.s, lb] := And.left (And.right (And.right (And.right (And.right (And.right he)))))
    have d6 : RdVal u (x 6) a1 := And.left (And.right (And.right (And.right (And.right (And.right (And.right he))))))
    have d7 : (x 7) = .bool true := And.left (And.right (And.right (And.right (And.right (And.right (And.right (And.right he)))))))
    have d8 : (x 8) = .bool true := And.left (And.right (And.right (And.right (And.right (And.right (And.right (And.right (And.right he))))))))
    have d9 : (x 9) = .agg #[.int .i64 a0.k, .int .i64 a0.n, .string a0.s, la] := And.left (And.right (And.right (And.right (And.right (And.right (And.right (And.right (And.right (And.right he)))))))))
    have d10 : RdVal u (x 10) a0 := And.left (And.right (And.right (And.right (And.right (And.right (And.right (And.right (And.right (And.right (And.right he))))))))))
    have d11 : (x 11) = .string (showM a1) := And.left (And.right (And.right (And.right (And.right (And.right (And.right (And.right (And.right (And.right (And.right (And.right he)))))))))))
    have d12 : (x 12) = .agg #[.int .i64 a1.k, .int .i64 a1.n, .string a1.s, lb] := And.left (And.right (And.right (And.right (And.right (And.right (And.right (And.right (And.right (And.right (And.right (And.right (And.right he))))))))))))
    have d13 : RdVal u (x 13) a1 := And.left (And.right (And.right (And.right (And.right (And.right (And.right (And.right (And.right (And.right (And.right (And.right (And.right (And.right he)))))))))))))
    have d14 : (x 14) = .string (showM a1) := And.left (And.right (And.right (And.right (And.right (And.right (And.right (And.right (And.right (And.right (And.right (And.right (And.right (And.right (And.right he))))))))))))))
    have d15 : (x 15) = .bool false := And.left (And.right (And.right (And.right (And.right (And.right (And.right (And.right (And.right (And.right (And.right (And.right (And.right (And.right (And.right (And.right he)))))))))))))))
    have d16 : (x 16) = .bool false := And.left (And.right (And.right (And.right (And.right (And.right (And.right (And.right (And.right (And.right (And.right (And.right (And.right (And.right (And.right (And.right (And.right he))))))))))))))))
    have d17 : (x 17) = .bool false := And.left (And.right (And.right (And.right (And.right (And.right (And.right (And.right (And.right (And.right (And.right (And.right (And.right (And.right (And.right (And.right (And.right (And.right he)))))))))))))))))
    clear he
    refine ⟨?_⟩
    simp only [putsFrom, Act.put, List.setIfInBounds_toArray, List.set_cons_zero, List.set_cons_succ, Nat.reduceAdd, d0, d1, d2, d3, d5, d7, d8, d9, d11, d12, d14, d15, d16, d17]
    clear d0 d1 d2 d3 d5 d7 d8 d9 d11 d12 d14 d15 d16 d17
    go_wp2_with fail
    have G3 := hg
    clear hg
    refine wp_region_kp [[], [0], [1], [], [3], [4], [2, 5], [6], [7], [7, 8], [7], [7, 10], [7, 9, 11], [7, 12], [13], [14], [14, 15], [14], [14, 17], [14, 16, 18], [14, 19], [20], [21], [21, 22], [21], [21, 24], [21, 23, 25], [21, 26], [27], [28], [28, 29], [28, 30], [28], [28, 32], [28, 33], [28, 31, 34], [28, 35], [36], [37], [37, 38], [37, 39], [37], [37, 41], [37, 42], [37, 40, 43], [37, 44], [45]] (Held4 W1 w.heap.size (w.heap.size + 1) w2.heap.size w4.heap.size a0 a1 pm pm la lb (.slice Ap pm.l.length cp) (.slice Aq pm.l.length cq))
      [fun (y : Value) (u : World) => y = (.agg #[.int .i64 pm.k, .int .i64 pm.n, .string pm.s, .slice Ap pm.l.length cp] : Value),
       fun (y : Value) (u : World) => RdVal u y pm,
       fun (y : Value) (u : World) => y = (.string (showM a0) : Value),
       fun (y : Value) (u : World) => y = (.agg #[.int .i64 a0.k, .int .i64 a0.n, .string a0.s, la] : Value),
       fun (y : Value) (u : World) => RdVal u y a0,
       fun (y : Value) (u : World) => y = (.string (showM a0) : Value),
       fun (y : Value) (u : World) => y = (.bool true : Value),
       fun (y : Value) (u : World) => y = (.bool true : Value),
       fun (y : Value) (u : World) => y = (.agg #[.int .i64 pm.k, .int .i64 pm.n, .string pm.s, .slice Ap pm.l.length cp] : Value),
       fun (y : Value) (u : World) => RdVal u y pm,
       fun (y : Value) (u : World) => y = (.agg #[.int .i64 pm.k, .int .i64 pm.n, .string pm.s, .slice Aq pm.l.length cq] : Value),
       fun (y : Value) (u : World) => RdVal u y pm,
       fun (y : Value) (u : World) => y = (.bool true : Value),
       fun (y : Value) (u : World) => y = (.bool true : Value),
       fun (y : Value) (u : World) => y = (.bool true : Value),
       fun (y : Value) (u : World) => y = (.pointer (some ⟨w2.heap.size, 1, none⟩) : Value),
       fun (y : Value) (u : World) => y = (.int .i64 pm.n : Value),
       fun (y : Value) (u : World) => y = (.pointer (some ⟨w4.heap.size, 1, none⟩) : Value),
       fun (y : Value) (u : World) => y = (.int .i64 pm.n : Value),
       fun (y : Value) (u : World) => y = (.bool true : Value),
       fun (y : Value) (u : World) => y = (.bool true : Value),
       fun (y : Value) (u : World) => y = (.bool true : Value),
       fun (y : Value) (u : World) => y = (.pointer (some ⟨w2.heap.size, 2, none⟩) : Value),
       fun (y : Value) (u : World) => y = (.string pm.s : Value),
       fun (y : Value) (u : World) => y = (.pointer (some ⟨w4.heap.size, 2, none⟩) : Value),
       fun (y : Value) (u : World) => y = (.string pm.s : Value),
       fun (y : Value) (u : World) => y = (.bool true : Value),
       fun (y : Value) (u : World) => y = (.bool true : Value),
       fun (y : Value) (u : World) => y = (.bool true : Value),
       fun (y : Value) (u : World) => y = (.pointer (some ⟨w2.heap.size, 3, none⟩) : Value),
       fun (y : Value) (u : World) => y = (.slice Ap pm.l.length cp : Value),
       fun (y : Value) (u : World) => y = (.int .i64 (pm.l.length : Int) : Value),
       fun (y : Value) (u : World) => y = (.pointer (some ⟨w4.heap.size, 3, none⟩) : Value),
       fun (y : Value) (u : World) => y = (.slice Aq pm.l.length cq : Value),
       fun (y : Value) (u : World) => y = (.int .i64 (pm.l.length : Int) : Value),
       fun (y : Value) (u : World) => y = (.bool true : Value),
       fun (y : Value) (u : World) => y = (.bool true : Value),
       fun (y : Value) (u : World) => y = (.bool true : Value),
       fun (y : Value) (u : World) => y = (.agg #[.int .i64 a0.k, .int .i64 a0.n, .string a0.s, la] : Value),
       fun (y : Value) (u : World) => RdVal u y a0,
       fun (y : Value) (u : World) => y = (.bool mb : Value),
       fun (y : Value) (u : World) => y = (.agg #[.int .i64 pm.k, .int .i64 pm.n, .string pm.s, .slice Ap pm.l.length cp] : Value),
       fun (y : Value) (u : World) => RdVal u y pm,
       fun (y : Value) (u : World) => y = (.bool mb : Value),
       fun (y : Value) (u : World) => y = (.bool true : Value),
       fun (y : Value) (u : World) => y = (.bool true : Value),
       fun (y : Value) (u : World) => y = (.bool true : Value)]
      (by kernel_rfl) (by kernel_rfl) (by kernel_rfl) (by kernel_rfl) (G3.kp (Kp.refl _).drew) (fun _ _ hk h => h.kp hk) ⟨fun _ _ _ _ h => h, fun _ _ _ hk h => h.kp hk, fun _ _ _ _ h => h, fun _ _ _ _ h => h, fun _ _ _ hk h => h.kp hk, fun _ _ _ _ h => h, fun _ _ _ _ h => h, fun _ _ _ _ h => h, fun _ _ _ _ h => h, fun _ _ _ hk h => h.kp hk, fun _ _ _ _ h => h, fun _ _ _ hk h => h.kp hk, fun _ _ _ _ h => h, fun _ _ _ _ h => h, fun _ _ _ _ h => h, fun _ _ _ _ h => h, fun _ _ _ _ h => h, fun _ _ _ _ h => h, fun _ _ _ _ h => h, fun _ _ _ _ h => h, fun _ _ _ _ h => h, fun _ _ _ _ h => h, fun _ _ _ _ h => h, fun _ _ _ _ h => h, fun _ _ _ _ h => h, fun _ _ _ _ h => h, fun _ _ _ _ h => h, fun _ _ _ _ h => h, fun _ _ _ _ h => h, fun _ _ _ _ h => h, fun _ _ _ _ h => h, fun _ _ _ _ h => h, fun _ _ _ _ h => h, fun _ _ _ _ h => h, fun _ _ _ _ h => h, fun _ _ _ _ h => h, fun _ _ _ _ h => h, fun _ _ _ _ h => h, fun _ _ _ _ h => h, fun _ _ _ hk h => h.kp hk, fun _ _ _ _ h => h, fun _ _ _ _ h => h, fun _ _ _ hk h => h.kp hk, fun _ _ _ _ h => h, fun _ _ _ _ h => h, fun _ _ _ _ h => h, fun _ _ _ _ h => h, trivial⟩ ⟨?sc0, ?sc1, ?sc2, ?sc3, ?sc4, ?sc5, ?sc6, ?sc7, ?sc8, ?sc9, ?sc10, ?sc11, ?sc12, ?sc13, ?sc14, ?sc15, ?sc16, ?sc17, ?sc18, ?sc19, ?sc20, ?sc21, ?sc22, ?sc23, ?sc24, ?sc25, ?sc26, ?sc27, ?sc28, ?sc29, ?sc30, ?sc31, ?sc32, ?sc33, ?sc34, ?sc35, ?sc36, ?sc37, ?sc38, ?sc39, ?sc40, ?sc41, ?sc42, ?sc43, ?sc44, ?sc45, ?sc46, trivial⟩ ?hEc
    case sc0 =>
      intro x u hg hd K hK
      clear hd
      refine ⟨?_⟩
      simp only [putsFrom, Act.put, List.setIfInBounds_toArray, List.set_cons_zero, List.set_cons_succ, Nat.reduceAdd] at hK ⊢
      go_simp
      exact hK.out _ _ (Kp.refl _) rfl
    case sc1 =>
      intro x u hg hd K hK
      have d0 : (x 0) = .agg #[.int .i64 pm.k, .int .i64 pm.n, .string pm.s, .slice Ap pm.l.length cp] := And.left hd
      clear hd
      refine ⟨?_⟩
      simp only [putsFrom, Act.put, List.setIfInBounds_toArray, List.set_cons_zero, List.set_cons_succ, Nat.reduceAdd, d0] at hK ⊢
      go_simp
      go_at_call 29
      have hc := own_k RP hg.k
      refine hc.mono ?_
      clear hc
      rintro e u' ⟨v1, rfl, hr, hk⟩
      dsimp only
      exact hK.out _ _ hk hr
    case sc2 =>
      intro x u hg hd K hK
      have d1 : RdVal u (x 1) pm := And.left hd
      clear hd
      refine ⟨?_⟩
      simp only [putsFrom, Act.put, List.setIfInBounds_toArray, List.set_cons_zero, List.set_cons_succ, Nat.reduceAdd] at hK ⊢
      go_simp
      go_at_call 34
      have hc := show_is d1 NP SP
      refine hc.mono ?_
      clear hc
      rintro e u' ⟨rfl, hk⟩
      dsimp only
      exact hK.out _ _ hk rfl
    case sc3 =>
      intro x u hg hd K hK
      clear hd
      refine ⟨?_⟩
      simp only [putsFrom, Act.put, List.setIfInBounds_toArray, List.set_cons_zero, List.set_cons_succ, Nat.reduceAdd] at hK ⊢
      go_simp
      exact hK.out _ _ (Kp.refl _) rfl
    case sc4 =>
      intro x u hg hd K hK
      have d3 : (x 3) = .agg #[.int .i64 a0.k, .int .i64 a0.n, .string a0.s, la] := And.left hd
      clear hd
      refine ⟨?_⟩
      simp only [putsFrom, Act.put, List.setIfInBounds_toArray, List.set_cons_zero, List.set_cons_succ, Nat.reduceAdd, d3] at hK ⊢
      go_simp
      go_at_call 29
      have hc := own_k R0 hg.k
      refine hc.mono ?_
      clear hc
      rintro e u' ⟨v1, rfl, hr, hk⟩
      dsimp only
      exact hK.out _ _ hk hr
    case sc5 =>
      intro x u hg hd K hK
      have d4 : RdVal u (x 4) a0 := And.left hd
      clear hd
      refine ⟨?_⟩
      simp only [putsFrom, Act.put, List.setIfInBounds_toArray, List.set_cons_zero, List.set_cons_succ, Nat.reduceAdd] at hK ⊢
      go_simp
      go_at_call 34
      have hc := show_is d4 N0 (hid rfl)
      refine hc.mono ?_
      clear hc
      rintro e u' ⟨rfl, hk⟩
      dsimp only
      exact hK.out _ _ hk rfl
    case sc6 =>
      intro x u hg hd K hK
      have d2 : (x 2) = .string (showM a0) := And.left hd
      have d5 : (x 5) = .string (showM a0) := And.left (And.right hd)
      clear hd
      refine ⟨?_⟩
      simp only [putsFrom, Act.put, List.setIfInBounds_toArray, List.set_cons_zero, List.set_cons_succ, Nat.reduceAdd, d2, d5] at hK ⊢
      go_simp
      exact hK.out _ _ (Kp.refl _) rfl
    case sc7 =>
      intro x u hg hd K hK
      have d6 : (x 6) = .bool true := And.left hd
      clear hd
      refine ⟨?_⟩
      simp only [putsFrom, Act.put, List.setIfInBounds_toArray, List.set_cons_zero, List.set_cons_succ, Nat.reduceAdd, d6] at hK ⊢
      go_simp
      exact hK.out _ _ (Kp.refl _) rfl
    case sc8 =>
      intro x u hg hd K hK
      have d7 : (x 7) = .bool true := And.left hd
      clear hd
      refine ⟨?_⟩
      simp only [putsFrom, Act.put, List.setIfInBounds_toArray, List.set_cons_zero, List.set_cons_succ, Nat.reduceAdd, d7] at hK ⊢
      go_simp
      exact hK.out _ _ (Kp.refl _) rfl
    case sc9 =>
      intro x u hg hd K hK
      have d7 : (x 7) = .bool true := And.left hd
      have d8 : (x 8) = .agg #[.int .i64 pm.k, .int .i64 pm.n, .string pm.s, .slice Ap pm.l.length cp] := And.left (And.right hd)
      clear hd
      refine ⟨?_⟩
      simp only [putsFrom, Act.put, List.setIfInBounds_toArray, List.set_cons_zero, List.set_cons_succ, Nat.reduceAdd, d7, d8] at hK ⊢
      go_simp
      go_at_call 29
      have hc := own_k RP hg.k
      refine hc.mono ?_
      clear hc
      rintro e u' ⟨v1, rfl, hr, hk⟩
      dsimp only
      exact hK.out _ _ hk hr
    case sc10 =>
      intro x u hg hd K hK
      have d7 : (x 7) = .bool true := And.left hd
      clear hd
      refine ⟨?_⟩
      simp only [putsFrom, Act.put, List.setIfInBounds_toArray, List.set_cons_zero, List.set_cons_succ, Nat.reduceAdd, d7] at hK ⊢
      go_simp
      exact hK.out _ _ (Kp.refl _) rfl
    case sc11 =>
      intro x u hg hd K hK
      have d7 : (x 7) = .bool true := And.left hd
      have d10 : (x 10) = .agg #[.int .i64 pm.k, .int .i64 pm.n, .string pm.s, .slice Aq pm.l.length cq] := And.left (And.right hd)
      clear hd
      refine ⟨?_⟩
      simp only [putsFrom, Act.put, List.setIfInBounds_toArray, List.set_cons_zero, List.set_cons_succ, Nat.reduceAdd, d7, d10] at hK ⊢
      go_simp
      go_at_call 29
      have hc := own_k RQ hg.k
      refine hc.mono ?_
      clear hc
      rintro e u' ⟨v1, rfl, hr, hk⟩
      dsimp only
      exact hK.out _ _ hk hr
    case sc12 =>
      intro x u hg hd K hK
      have d7 : (x 7) = .bool true := And.left hd
      have d9 : RdVal u (x 9) pm := And.left (And.right hd)
      have d11 : RdVal u (x 11) pm := And.left (And.right (And.right hd))
      clear hd
      refine ⟨?_⟩
      simp only [putsFrom, Act.put, List.setIfInBounds_toArray, List.set_cons_zero, List.set_cons_succ, Nat.reduceAdd, d7] at hK ⊢
      go_simp
      go_at_call 30
      have hc := same_is d9 (Kp.refl _) d11 SR
      refine hc.mono ?_
      clear hc
      rintro e u' ⟨rfl, hk⟩
      dsimp only
      exact hK.out _ _ hk rfl
    case sc13 =>
      intro x u hg hd K hK
      have d7 : (x 7) = .bool true := And.left hd
      have d12 : (x 12) = .bool true := And.left (And.right hd)
      clear hd
      refine ⟨?_⟩
      simp only [putsFrom, Act.put, List.setIfInBounds_toArray, List.set_cons_zero, List.set_cons_succ, Nat.reduceAdd, d7, d12] at hK ⊢
      go_simp
      exact hK.out _ _ (Kp.refl _) rfl
    case sc14 =>
      intro x u hg hd K hK
      have d13 : (x 13) = .bool true := And.left hd
      clear hd
      refine ⟨?_⟩
      simp only [putsFrom, Act.put, List.setIfInBounds_toArray, List.set_cons_zero, List.set_cons_succ, Nat.reduceAdd, d13] at hK ⊢
      go_simp
      exact hK.out _ _ (Kp.refl _) rfl
    case sc15 =>
      intro x u hg hd K hK
      have d14 : (x 14) = .bool true := And.left hd
      clear hd
      refine ⟨?_⟩
      simp only [putsFrom, Act.put, List.setIfInBounds_toArray, List.set_cons_zero, List.set_cons_succ, Nat.reduceAdd, d14] at hK ⊢
      go_simp
      exact hK.out _ _ (Kp.refl _) rfl
    case sc16 =>
      intro x u hg hd K hK
      have d14 : (x 14) = .bool true := And.left hd
      have d15 : (x 15) = .pointer (some ⟨w2.heap.size, 1, none⟩) := And.left (And.right hd)
      clear hd
      refine ⟨?_⟩
      simp only [putsFrom, Act.put, List.setIfInBounds_toArray, List.set_cons_zero, List.set_cons_succ, Nat.reduceAdd, d14, d15] at hK ⊢
      go_simp
      exact hK.out _ _ (Kp.refl _) rfl
    case sc17 =>
      intro x u hg hd K hK
      have d14 : (x 14) = .bool true := And.left hd
      clear hd
      refine ⟨?_⟩
      simp only [putsFrom, Act.put, List.setIfInBounds_toArray, List.set_cons_zero, List.set_cons_succ, Nat.reduceAdd, d14] at hK ⊢
      go_simp
      exact hK.out _ _ (Kp.refl _) rfl
    case sc18 =>
      intro x u hg hd K hK
      have d14 : (x 14) = .bool true := And.left hd
      have d17 : (x 17) = .pointer (some ⟨w4.heap.size, 1, none⟩) := And.left (And.right hd)
      clear hd
      refine ⟨?_⟩
      simp only [putsFrom, Act.put, List.setIfInBounds_toArray, List.set_cons_zero, List.set_cons_succ, Nat.reduceAdd, d14, d17] at hK ⊢
      go_simp
      exact hK.out _ _ (Kp.refl _) rfl
    case sc19 =>
      intro x u hg hd K hK
      have d14 : (x 14) = .bool true := And.left hd
      have d16 : (x 16) = .int .i64 pm.n := And.left (And.right hd)
      have d18 : (x 18) = .int .i64 pm.n := And.left (And.right (And.right hd))
      clear hd
      refine ⟨?_⟩
      simp only [putsFrom, Act.put, List.setIfInBounds_toArray, List.set_cons_zero, List.set_cons_succ, Nat.reduceAdd, d14, d16, d18] at hK ⊢
      go_simp
      exact hK.out _ _ (Kp.refl _) rfl
    case sc20 =>
      intro x u hg hd K hK
      have d14 : (x 14) = .bool true := And.left hd
      have d19 : (x 19) = .bool true := And.left (And.right hd)
      clear hd
      refine ⟨?_⟩
      simp only [putsFrom, Act.put, List.setIfInBounds_toArray, List.set_cons_zero, List.set_cons_succ, Nat.reduceAdd, d14, d19] at hK ⊢
      go_simp
      exact hK.out _ _ (Kp.refl _) rfl
    case sc21 =>
      intro x u hg hd K hK
      have d20 : (x 20) = .bool true := And.left hd
      clear hd
      refine ⟨?_⟩
      simp only [putsFrom, Act.put, List.setIfInBounds_toArray, List.set_cons_zero, List.set_cons_succ, Nat.reduceAdd, d20] at hK ⊢
      go_simp
      exact hK.out _ _ (Kp.refl _) rfl
    case sc22 =>
      intro x u hg hd K hK
      have d21 : (x 21) = .bool true := And.left hd
      clear hd
      refine ⟨?_⟩
      simp only [putsFrom, Act.put, List.setIfInBounds_toArray, List.set_cons_zero, List.set_cons_succ, Nat.reduceAdd, d21] at hK ⊢
      go_simp
      exact hK.out _ _ (Kp.refl _) rfl
    case sc23 =>
      intro x u hg hd K hK
      have d21 : (x 21) = .bool true := And.left hd
      have d22 : (x 22) = .pointer (some ⟨w2.heap.size, 2, none⟩) := And.left (And.right hd)
      clear hd
      refine ⟨?_⟩
      simp only [putsFrom, Act.put, List.setIfInBounds_toArray, List.set_cons_zero, List.set_cons_succ, Nat.reduceAdd, d21, d22] at hK ⊢
      go_simp
      exact hK.out _ _ (Kp.refl _) rfl
    case sc24 =>
      intro x u hg hd K hK
      have d21 : (x 21) = .bool true := And.left hd
      clear hd
      refine ⟨?_⟩
      simp only [putsFrom, Act.put, List.setIfInBounds_toArray, List.set_cons_zero, List.set_cons_succ, Nat.reduceAdd, d21] at hK ⊢
      go_simp
      exact hK.out _ _ (Kp.refl _) rfl
    case sc25 =>
      intro x u hg hd K hK
      have d21 : (x 21) = .bool true := And.left hd
      have d24 : (x 24) = .pointer (some ⟨w4.heap.size, 2, none⟩) := And.left (And.right hd)
      clear hd
      refine ⟨?_⟩
      simp only [putsFrom, Act.put, List.setIfInBounds_toArray, List.set_cons_zero, List.set_cons_succ, Nat.reduceAdd, d21, d24] at hK ⊢
      go_simp
      exact hK.out _ _ (Kp.refl _) rfl
    case sc26 =>
      intro x u hg hd K hK
      have d21 : (x 21) = .bool true := And.left hd
      have d23 : (x 23) = .string pm.s := And.left (And.right hd)
      have d25 : (x 25) = .string pm.s := And.left (And.right (And.right hd))
      clear hd
      refine ⟨?_⟩
      simp only [putsFrom, Act.put, List.setIfInBounds_toArray, List.set_cons_zero, List.set_cons_succ, Nat.reduceAdd, d21, d23, d25] at hK ⊢
      go_simp
      exact hK.out _ _ (Kp.refl _) rfl
    case sc27 =>
      intro x u hg hd K hK
      have d21 : (x 21) = .bool true := And.left hd
      have d26 : (x 26) = .bool true := And.left (And.right hd)
      clear hd
      refine ⟨?_⟩
      simp only [putsFrom, Act.put, List.setIfInBounds_toArray, List.set_cons_zero, List.set_cons_succ, Nat.reduceAdd, d21, d26] at hK ⊢
      go_simp
      exact hK.out _ _ (Kp.refl _) rfl
    case sc28 =>
      intro x u hg hd K hK
      have d27 : (x 27) = .bool true := And.left hd
      clear hd
      refine ⟨?_⟩
      simp only [putsFrom, Act.put, List.setIfInBounds_toArray, List.set_cons_zero, List.set_cons_succ, Nat.reduceAdd, d27] at hK ⊢
      go_simp
      exact hK.out _ _ (Kp.refl _) rfl
    case sc29 =>
      intro x u hg hd K hK
      have d28 : (x 28) = .bool true := And.left hd
      clear hd
      refine ⟨?_⟩
      simp only [putsFrom, Act.put, List.setIfInBounds_toArray, List.set_cons_zero, List.set_cons_succ, Nat.reduceAdd, d28] at hK ⊢
      go_simp
      exact hK.out _ _ (Kp.refl _) rfl
    case sc30 =>
      intro x u hg hd K hK
      have d28 : (x 28) = .bool true := And.left hd
      have d29 : (x 29) = .pointer (some ⟨w2.heap.size, 3, none⟩) := And.left (And.right hd)
      clear hd
      refine ⟨?_⟩
      simp only [putsFrom, Act.put, List.setIfInBounds_toArray, List.set_cons_zero, List.set_cons_succ, Nat.reduceAdd, d28, d29] at hK ⊢
      go_simp
      exact hK.out _ _ (Kp.refl _) rfl
    case sc31 =>
      intro x u hg hd K hK
      have d28 : (x 28) = .bool true := And.left hd
      have d30 : (x 30) = .slice Ap pm.l.length cp := And.left (And.right hd)
      clear hd
      refine ⟨?_⟩
      simp only [putsFrom, Act.put, List.setIfInBounds_toArray, List.set_cons_zero, List.set_cons_succ, Nat.reduceAdd, d28, d30] at hK ⊢
      go_simp
      exact hK.out _ _ (Kp.refl _) rfl
    case sc32 =>
      intro x u hg hd K hK
      have d28 : (x 28) = .bool true := And.left hd
      clear hd
      refine ⟨?_⟩
      simp only [putsFrom, Act.put, List.setIfInBounds_toArray, List.set_cons_zero, List.set_cons_succ, Nat.reduceAdd, d28] at hK ⊢
      go_simp
      exact hK.out _ _ (Kp.refl _) rfl
    case sc33 =>
      intro x u hg hd K hK
      have d28 : (x 28) = .bool true := And.left hd
      have d32 : (x 32) = .pointer (some ⟨w4.heap.size, 3, none⟩) := And.left (And.right hd)
      clear hd
      refine ⟨?_⟩
      simp only [putsFrom, Act.put, List.setIfInBounds_toArray, List.set_cons_zero, List.set_cons_succ, Nat.reduceAdd, d28, d32] at hK ⊢
      go_simp
      exact hK.out _ _ (Kp.refl _) rfl
    case sc34 =>
      intro x u hg hd K hK
      have d28 : (x 28) = .bool true := And.left hd
      have d33 : (x 33) = .slice Aq pm.l.length cq := And.left (And.right hd)
      clear hd
      refine ⟨?_⟩
      simp only [putsFrom, Act.put, List.setIfInBounds_toArray, List.set_cons_zero, List.set_cons_succ, Nat.reduceAdd, d28, d33] at hK ⊢
      go_simp
      exact hK.out _ _ (Kp.refl _) rfl
    case sc35 =>
      intro x u hg hd K hK
      have d28 : (x 28) = .bool true := And.left hd
      have d31 : (x 31) = .int .i64 (pm.l.length : Int) := And.left (And.right hd)
      have d34 : (x 34) = .int .i64 (pm.l.length : Int) := And.left (And.right (And.right hd))
      clear hd
      refine ⟨?_⟩
      simp only [putsFrom, Act.put, List.setIfInBounds_toArray, List.set_cons_zero, List.set_cons_succ, Nat.reduceAdd, d28, d31, d34] at hK ⊢
      go_simp
      exact hK.out _ _ (Kp.refl _) rfl
    case sc36 =>
      intro x u hg hd K hK
      have d28 : (x 28) = .bool true := And.left hd
      have d35 : (x 35) = .bool true := And.left (And.right hd)
      clear hd
      refine ⟨?_⟩
      simp only [putsFrom, Act.put, List.setIfInBounds_toArray, List.set_cons_zero, List.set_cons_succ, Nat.reduceAdd, d28, d35] at hK ⊢
      go_simp
      exact hK.out _ _ (Kp.refl _) rfl
    case sc37 =>
      intro x u hg hd K hK
      have d36 : (x 36) = .bool true := And.left hd
      clear hd
      refine ⟨?_⟩
      simp only [putsFrom, Act.put, List.setIfInBounds_toArray, List.set_cons_zero, List.set_cons_succ, Nat.reduceAdd, d36] at hK ⊢
      go_simp
      exact hK.out _ _ (Kp.refl _) rfl
    case sc38 =>
      intro x u hg hd K hK
      have d37 : (x 37) = .bool true := And.left hd
      clear hd
      refine ⟨?_⟩
      simp only [putsFrom, Act.put, List.setIfInBounds_toArray, List.set_cons_zero, List.set_cons_succ, Nat.reduceAdd, d37] at hK ⊢
      go_simp
      exact hK.out _ _ (Kp.refl _) rfl
    case sc39 =>
      intro x u hg hd K hK
      have d37 : (x 37) = .bool true := And.left hd
      have d38 : (x 38) = .agg #[.int .i64 a0.k, .int .i64 a0.n, .string a0.s, la] := And.left (And.right hd)
      clear hd
      refine ⟨?_⟩
      simp only [putsFrom, Act.put, List.setIfInBounds_toArray, List.set_cons_zero, List.set_cons_succ, Nat.reduceAdd, d37, d38] at hK ⊢
      go_simp
      go_at_call 29
      have hc := own_k R0 hg.k
      refine hc.mono ?_
      clear hc
      rintro e u' ⟨v1, rfl, hr, hk⟩
      dsimp only
      exact hK.out _ _ hk hr
    case sc40 =>
      intro x u hg hd K hK
      have d37 : (x 37) = .bool true := And.left hd
      have d39 : RdVal u (x 39) a0 := And.left (And.right hd)
      clear hd
      refine ⟨?_⟩
      simp only [putsFrom, Act.put, List.setIfInBounds_toArray, List.set_cons_zero, List.set_cons_succ, Nat.reduceAdd, d37] at hK ⊢
      go_simp
      go_at_call 38
      have hc := may_is d39 SM
      refine hc.mono ?_
      clear hc
      rintro e u' ⟨rfl, hk⟩
      dsimp only
      exact hK.out _ _ hk rfl
    case sc41 =>
      intro x u hg hd K hK
      have d37 : (x 37) = .bool true := And.left hd
      clear hd
      refine ⟨?_⟩
      simp only [putsFrom, Act.put, List.setIfInBounds_toArray, List.set_cons_zero, List.set_cons_succ, Nat.reduceAdd, d37] at hK ⊢
      go_simp
      exact hK.out _ _ (Kp.refl _) rfl
    case sc42 =>
      intro x u hg hd K hK
      have d37 : (x 37) = .bool true := And.left hd
      have d41 : (x 41) = .agg #[.int .i64 pm.k, .int .i64 pm.n, .string pm.s, .slice Ap pm.l.length cp] := And.left (And.right hd)
      clear hd
      refine ⟨?_⟩
      simp only [putsFrom, Act.put, List.setIfInBounds_toArray, List.set_cons_zero, List.set_cons_succ, Nat.reduceAdd, d37, d41] at hK ⊢
      go_simp
      go_at_call 29
      have hc := own_k RP hg.k
      refine hc.mono ?_
      clear hc
      rintro e u' ⟨v1, rfl, hr, hk⟩
      dsimp only
      exact hK.out _ _ hk hr
    case sc43 =>
      intro x u hg hd K hK
      have d37 : (x 37) = .bool true := And.left hd
      have d42 : RdVal u (x 42) pm := And.left (And.right hd)
      clear hd
      refine ⟨?_⟩
      simp only [putsFrom, Act.put, List.setIfInBounds_toArray, List.set_cons_zero, List.set_cons_succ, Nat.reduceAdd, d37] at hK ⊢
      go_simp
      go_at_call 38
      have hc := may_is d42 SMP
      refine hc.mono ?_
      clear hc
      rintro e u' ⟨rfl, hk⟩
      dsimp only
      exact hK.out _ _ hk rfl
    case sc44 =>
      intro x u hg hd K hK
      have d37 : (x 37) = .bool true := And.left hd
      have d40 : (x 40) = .bool mb := And.left (And.right hd)
      have d43 : (x 43) = .bool mb := And.left (And.right (And.right hd))
      clear hd
      refine ⟨?_⟩
      simp only [putsFrom, Act.put, List.setIfInBounds_toArray, List.set_cons_zero, List.set_cons_succ, Nat.reduceAdd, d37, d40, d43] at hK ⊢
      go_simp
      exact hK.out _ _ (Kp.refl _) rfl
    case sc45 =>
      intro x u hg hd K hK
      have d37 : (x 37) = .bool true := And.left hd
      have d44 : (x 44) = .bool true := And.left (And.right hd)
      clear hd
      refine ⟨?_⟩
      simp only [putsFrom, Act.put, List.setIfInBounds_toArray, List.set_cons_zero, List.set_cons_succ, Nat.reduceAdd, d37, d44] at hK ⊢
      go_simp
      exact hK.out _ _ (Kp.refl _) rfl
    case sc46 =>
      intro x u hg hd K hK
      have d45 : (x 45) = .bool true := And.left hd
      clear hd
      refine ⟨?_⟩
      simp only [putsFrom, Act.put, List.setIfInBounds_toArray, List.set_cons_zero, List.set_cons_succ, Nat.reduceAdd, d45] at hK ⊢
      go_simp
      exact hK.out _ _ (Kp.refl _) rfl
    intro x u hg he
    have d0 : (x 0) = .agg #[.int .i64 pm.k, .int .i64 pm.n, .string pm.s, .slice Ap pm.l.length cp] := And.left he
    have d1 : RdVal u (x 1) pm := And.left (And.right he)
    have d2 : (x 2) = .string (showM a0) := And.left (And.right (And.right he))
    have d3 : (x 3) = .agg #[.int .i64 a0.k, .int .i64 a0.n, .string a0.s, la] := And.left (And.right (And.right (And.right he)))
    have d4 : RdVal u (x 4) a0 := And.left (And.right (And.right (And.right (And.right he))))
    have d5 : (x 5) = .string (showM a0) := And.left (And.right (And.right (And.right (And.right (And.right he)))))
    have d6 : (x 6) = .bool true := And.left (And.right (And.right (And.right (And.right (And.right (And.right he))))))
    have d7 : (x 7) = .bool true := And.left (And.right (And.right (And.right (And.right (And.right (And.right (And.right he)))))))
    have d8 : (x 8) = .agg #[.int .i64 pm.k, .int .i64 pm.n, .string pm.s, .slice Ap pm.l.length cp] := And.left (And.right (And.right (And.right (And.right (And.right (And.right (And.right (And.right he))))))))
    have d9 : RdVal u (x 9) pm := And.left (And.right (And.right (And.right (And.right (And.right (And.right (And.right (And.right (And.right he)))))))))
    have d10 : (x 10) = .agg #[.int .i64 pm.k, .int .i64 pm.n, .string pm.s, .slice Aq pm.l.length cq] := And.left (And.right (And.right (And.right (And.right (And.right (And.right (And.right (And.right (And.right (And.right he))))))))))
    have d11 : RdVal u (x 11) pm := And.left (And.right (And.right (And.right (And.right (And.right (And.right (And.right (And.right (And.right (And.right (And.right he)))))))))))
    have d12 : (x 12) = .bool true := And.left (And.right (And.right (And.right (And.right (And.right (And.right (And.right (And.right (And.right (And.right (And.right (And.right he))))))))))))
    have d13 : (x 13) = .bool true := And.left (And.right (And.right (And.right (And.right (And.right (And.right (And.right (And.right (And.right (And.right (And.right (And.right (And.right he)))))))))))))
    have d14 : (x 14) = .bool true := And.left (And.right (And.right (And.right (And.right (And.right (And.right (And.right (And.right (And.right (And.right (And.right (And.right (And.right (And.right he))))))))))))))
    have d15 : (x 15) = .pointer (some ⟨w2.heap.size, 1, none⟩) := And.left (And.right (And.right (And.right (And.right (And.right (And.right (And.right (And.right (And.right (And.right (And.right (And.right (And.right (And.right (And.right he)))))))))))))))
    have d16 : (x 16) = .int .i64 pm.n := And.left (And.right (And.right (And.right (And.right (And.right (And.right (And.right (And.right (And.right (And.right (And.right (And.right (And.right (And.right (And.right (And.right he))))))))))))))))
    have d17 : (x 17) = .pointer (some ⟨w4.heap.size, 1, none⟩) := And.left (And.right (And.right (And.right (And.right (And.right (And.right (And.right (And.right (And.right (And.right (And.right (And.right (And.right (And.right (And.right (And.right (And.right he)))))))))))))))))
    have d18 : (x 18) = .int .i64 pm.n := And.left (And.right (And.right (And.right (And.right (And.right (And.right (And.right (And.right (And.right (And.right (And.right (And.right (And.right (And.right (And.right (And.right (And.right (And.right he))))))))))))))))))
    have d19 : (x 19) = .bool true := And.left (And.right (And.right (And.right (And.right (And.right (And.right (And.right (And.right (And.right (And.right (And.right (And.right (And.right (And.right (And.right (And.right (And.right (And.right (And.right he)))))))))))))))))))
    have d20 : (x 20) = .bool true := And.left (And.right (And.right (And.right (And.right (And.right (And.right (And.right (And.right (And.right (And.right (And.right (And.right (And.right (And.right (And.right (And.right (And.right (And.right (And.right (And.right he))))))))))))))))))))
    have d21 : (x 21) = .bool true := And.left (And.right (And.right (And.right (And.right (And.right (And.right (And.right (And.right (And.right (And.right (And.right (And.right (And.right (And.right (And.right (And.right (And.right (And.right (And.right (And.right (And.right he)))))))))))))))))))))
    have d22 : (x 22) = .pointer (some ⟨w2.heap.size, 2, none⟩) := And.left (And.right (And.right (And.right (And.right (And.right (And.right (And.right (And.right (And.right (And.right (And.right (And.right (And.right (And.right (And.right (And.right (And.right (And.right (And.right (And.right (And.right (And.right he))))))))))))))))))))))
    have d23 : (x 23) = .string pm.s := And.left (And.right (And.right (And.right (And.right (And.right (And.right (And.right (And.right (And.right (And.right (And.right (And.right (And.right (And.right (And.right (And.right (And.right (And.right (And.right (And.right (And.right (And.right (And.right he)))))))))))))))))))))))
    have d24 : (x 24) = .pointer (some ⟨w4.heap.size, 2, none⟩) := And.left (And.right (And.right (And.right (And.right (And.right (And.right (And.right (And.right (And.right (And.right (And.right (And.right (And.right (And.right (And.right (And.right (And.right (And.right (And.right (And.right (And.right (And.right (And.right (And.right he))))))))))))))))))))))))
    have d25 : (x 25) = .string pm.s := And.left (And.right (And.right (And.right (And.right (And.right (And.right (And.right (And.right (And.right (And.right (And.right (And.right (And.right (And.right (And.right (And.right (And.right (And.right (And.right (And.right (And.right (And.right (And.right (And.right (And.right he)))))))))))))))))))))))))
    have d26 : (x 26) = .bool true := And.left (And.right (And.right (And.right (And.right (And.right (And.right (And.right (And.right (And.right (And.right (And.right (And.right (And.right (And.right (And.right (And.right (And.right (And.right (And.right (And.right (And.right (And.right (And.right (And.right (And.right (And.right he))))))))))))))))))))))))))
    have d27 : (x 27) = .bool true := And.left (And.right (And.right (And.right (And.right (And.right (And.right (And.right (And.right (And.right (And.right (And.right (And.right (And.right (And.right (And.right (And.right (And.right (And.right (And.right (And.right (And.right (And.right (And.right (And.right (And.right (And.right (And.right he)))))))))))))))))))))))))))
    have d28 : (x 28) = .bool true := And.left (And.right (And.right (And.right (And.right (And.right (And.right (And.right (And.right (And.right (And.right (And.right (And.right (And.right (And.right (And.right (And.right (And.right (And.right (And.right (And.right (And.right (And.right (And.right (And.right (And.right (And.right (And.right (And.right he))))))))))))))))))))))))))))
    have d29 : (x 29) = .pointer (some ⟨w2.heap.size, 3, none⟩) := And.left (And.right (And.right (And.right (And.right (And.right (And.right (And.right (And.right (And.right (And.right (And.right (And.right (And.right (And.right (And.right (And.right (And.right (And.right (And.right (And.right (And.right (And.right (And.right (And.right (And.right (And.right (And.right (And.right (And.right he)))))))))))))))))))))))))))))
    have d30 : (x 30) = .slice Ap pm.l.length cp := And.left (And.right (And.right (And.right (And.right (And.right (And.right (And.right (And.right (And.right (And.right (And.right (And.right (And.right (And.right (And.right (And.right (And.right (And.right (And.right (And.right (And.right (And.right (And.right (And.right (And.right (And.right (And.right (And.right (And.right (And.right he))))))))))))))))))))))))))))))
    have d31 : (x 31) = .int .i64 (pm.l.length : Int) := And.left (And.right (And.right (And.right (And.right (And.right (And.right (And.right (And.right (And.right (And.right (And.right (And.right (And.right (And.right (And.right (And.right (And.right (And.right (And.right (And.right (And.right (And.right (And.right (And.right (And.right (And.right (And.right (And.right (And.right (And.right (And.right he)))))))))))))))))))))))))))))))
    have d32 : (x 32) = .pointer (some ⟨w4.heap.size, 3, none⟩) := And.left (And.right (And.right (And.right (And.right (And.right (And.right (And.right (And.right (And.right (And.right (And.right (And.right (And.right (And.right (And.right (And.right (And.right (And.right (And.right (And.right (And.right (And.right (And.right (And.right (And.right (And.right (And.right (And.right (And.right (And.right (And.right (And.right he))))))))))))))))))))))))))))))))
    have d33 : (x 33) = .slice Aq pm.l.length cq := And.left (And.right (And.right (And.right (And.right (And.right (And.right (And.right (And.right (And.right (And.right (And.right (And.right (And.right (And.right (And.right (And.right (And.right (And.right (And.right (And.right (And.right (And.right (And.right (And.right (And.right (And.right (And.right (And.right (And.right (And.right (And.right (And.right (And.right he)))))))))))))))))))))))))))))))))
    have d34 : (x 34) = .int .i64 (pm.l.length : Int) := And.left (And.right (And.right (And.right (And.right (And.right (And.right (And.right (And.right (And.right (And.right (And.right (And.right (And.right (And.right (And.right (And.right (And.right (And.right (And.right (And.right (And.right (And.right (And.right (And.right (And.right (And.right (And.right (And.right (And.right (And.right (And.right (And.right (And.right (And.right he))))))))))))))))))))))))))))))))))
    have d35 : (x 35) = .bool true := And.left (And.right (And.right (And.right (And.right (And.right (And.right (And.right (And.right (And.right (And.right (And.right (And.right (And.right (And.right (And.right (And.right (And.right (And.right (And.right (And.right (And.right (And.right (And.right (And.right (And.right (And.right (And.right (And.right (And.right (And.right (And.right (And.right (And.right (And.right (And.right he)))))))))))))))))))))))))))))))))))
    have d36 : (x 36) = .bool true := And.left (And.right (And.right (And.right (And.right (And.right (And.right (And.right (And.right (And.right (And.right (And.right (And.right (And.right (And.right (And.right (And.right (And.right (And.right (And.right (And.right (And.right (And.right (And.right (And.right (And.right (And.right (And.right (And.right (And.right (And.right (And.right (And.right (And.right (And.right (And.right (And.right he))))))))))))))))))))))))))))))))))))
    have d37 : (x 37) = .bool true := And.left (And.right (And.right (And.right (And.right (And.right (And.right (And.right (And.right (And.right (And.right (And.right (And.right (And.right (And.right (And.right (And.right (And.right (And.right (And.right (And.right (And.right (And.right (And.right (And.right (And.right (And.right (And.right (And.right (And.right (And.right (And.right (And.right (And.right (And.right (And.right (And.right (And.right he)))))))))))))))))))))))))))))))))))))
    have d38 : (x 38) = .agg #[.int .i64 a0.k, .int .i64 a0.n, .string a0.s, la] := And.left (And.right (And.right (And.right (And.right (And.right (And.right (And.right (And.right (And.right (And.right (And.right (And.right (And.right (And.right (And.right (And.right (And.right (And.right (And.right (And.right (And.right (And.right (And.right (And.right (And.right (And.right (And.right (And.right (And.right (And.right (And.right (And.right (And.right (And.right (And.right (And.right (And.right (And.right he))))))))))))))))))))))))))))))))))))))
    have d39 : RdVal u (x 39) a0 := And.left (And.right (And.right (And.right (And.right (And.right (And.right (And.right (And.right (And.right (And.right (And.right (And.right (And.right (And.right (And.right (And.right (And.right (And.right (And.right (And.right (And.right (And.right (And.right (And.right (And.right (And.right (And.right (And.right (And.right (And.right (And.right (And.right (And.right (And.right (And.right (And.right (And.right (And.right (And.right he)))))))))))))))))))))))))))))))))))))))
    have d40 : (x 40) = .bool mb := And.left (And.right (And.right (And.right (And.right (And.right (And.right (And.right (And.right (And.right (And.right (And.right (And.right (And.right (And.right (And.right (And.right (And.right (And.right (And.right (And.right (And.right (And.right (And.right (And.right (And.right (And.right (And.right (And.right (And.right (And.right (And.right (And.right (And.right (And.right (And.right (And.right (And.right (And.right (And.right (And.right he))))))))))))))))))))))))))))))))))))))))
    have d41 : (x 41) = .agg #[.int .i64 pm.k, .int .i64 pm.n, .string pm.s, .slice Ap pm.l.length cp] := And.left (And.right (And.right (And.right (And.right (And.right (And.right (And.right (And.right (And.right (And.right (And.right (And.right (And.right (And.right (And.right (And.right (And.right (And.right (And.right (And.right (And.right (And.right (And.right (And.right (And.right (And.right (And.right (And.right (And.right (And.right (And.right (And.right (And.right (And.right (And.right (And.right (And.right (And.right (And.right (And.right (And.right he)))))))))))))))))))))))))))))))))))))))))
    have d42 : RdVal u (x 42) pm := And.left (And.right (And.right (And.right (And.right (And.right (And.right (And.right (And.right (And.right (And.right (And.right (And.right (And.right (And.right (And.right (And.right (And.right (And.right (And.right (And.right (And.right (And.right (And.right (And.right (And.right (And.right (And.right (And.right (And.right (And.right (And.right (And.right (And.right (And.right (And.right (And.right (And.right (And.right (And.right (And.right (And.right (And.right he))))))))))))))))))))))))))))))))))))))))))
    have d43 : (x 43) = .bool mb := And.left (And.right (And.right (And.right (And.right (And.right (And.right (And.right (And.right (And.right (And.right (And.right (And.right (And.right (And.right (And.right (And.right (And.right (And.right (And.right (And.right (And.right (And.right (And.right (And.right (And.right (And.right (And.right (And.right (And.right (And.right (And.right (And.right (And.right (And.right (And.right (And.right (And.right (And.right (And.right (And.right (And.right (And.right (And.right he)))))))))))))))))))))))))))))))))))))))))))
    have d44 : (x 44) = .bool true := And.left (And.right (And.right (And.right (And.right (And.right (And.right (And.right (And.right (And.right (And.right (And.right (And.right (And.right (And.right (And.right (And.right (And.right (And.right (And.right (And.right (And.right (And.right (And.right (And.right (And.right (And.right (And.right (And.right (And.right (And.right (And.right (And.right (And.right (And.right (And.right (And.right (And.right (And.right (And.right (And.right (And.right (And.right (And.right (And.right he))))))))))))))))))))))))))))))))))))))))))))
    have d45 : (x 45) = .bool true := And.left (And.right (And.right (And.right (And.right (And.right (And.right (And.right (And.right (And.right (And.right (And.right (And.right (And.right (And.right (And.right (And.right (And.right (And.right (And.right (And.right (And.right (And.right (And.right (And.right (And.right (And.right (And.right (And.right (And.right (And.right (And.right (And.right (And.right (And.right (And.right (And.right (And.right (And.right (And.right (And.right (And.right (And.right (And.right (And.right (And.right he)))))))))))))))))))))))))))))))))))))))))))))
    have d46 : (x 46) = .bool true := And.left (And.right (And.right (And.right (And.right (And.right (And.right (And.right (And.right (And.right (And.right (And.right (And.right (And.right (And.right (And.right (And.right (And.right (And.right (And.right (And.right (And.right (And.right (And.right (And.right (And.right (And.right (And.right (And.right (And.right (And.right (And.right (And.right (And.right (And.right (And.right (And.right (And.right (And.right (And.right (And.right (And.right (And.right (And.right (And.right (And.right (And.right he))))))))))))))))))))))))))))))))))))))))))))))
    clear he
    refine ⟨?_⟩
    simp only [putsFrom, Act.put, List.setIfInBounds_toArray, List.set_cons_zero, List.set_cons_succ, Nat.reduceAdd, d0, d2, d3, d5, d6, d7, d8, d10, d12, d13, d14, d15, d16, d17, d18, d19, d20, d21, d22, d23, d24, d25, d26, d27, d28, d29, d30, d31, d32, d33, d34, d35, d36, d37, d38, d40, d41, d43, d44, d45, d46]
    clear d0 d2 d3 d5 d6 d7 d8 d10 d12 d13 d14 d15 d16 d17 d18 d19 d20 d21 d22 d23 d24 d25 d26 d27 d28 d29 d30 d31 d32 d33 d34 d35 d36 d37 d38 d40 d41 d43 d44 d45 d46
    go_wp2_with fail
    go_ret
    exact ⟨rfl, KW.trans hg.k⟩
  | false =>
    clear SEb
    refine wp_region_kp [[], [0], [1], [2], [2, 3], [2], [2, 5], [2, 4, 6], [2, 7], [8], [8, 9], [8, 10], [8], [8, 12], [8, 13], [8, 11, 14], [2, 8, 15], [2, 16]] (Held4 W1 w.heap.size (w.heap.size + 1) w2.heap.size w4.heap.size a0 a1 pm pm la lb (.slice Ap pm.l.length cp) (.slice Aq pm.l.length cq))
      [fun (y : Value) (u : World) => y = (.bool true : Value),
       fun (y : Value) (u : World) => y = (.bool false : Value),
       fun (y : Value) (u : World) => y = (.bool false : Value),
       fun (y : Value) (u : World) => y = (.agg #[.int .i64 a0.k, .int .i64 a0.n, .string a0.s, la] : Value),
       fun (y : Value) (u : World) => RdVal u y a0,
       fun (y : Value) (u : World) => y = (.agg #[.int .i64 a1.k, .int .i64 a1.n, .string a1.s, lb] : Value),
       fun (y : Value) (u : World) => RdVal u y a1,
       fun (y : Value) (u : World) => y = (.bool false : Value),
       fun (y : Value) (u : World) => y = (.bool false : Value),
       fun (y : Value) (u : World) => y = (undef : Value),
       fun (y : Value) (u : World) => y = (undef : Value),
       fun (y : Value) (u : World) => y = (undef : Value),
       fun (y : Value) (u : World) => y = (undef : Value),
       fun (y : Value) (u : World) => y = (undef : Value),
       fun (y : Value) (u : World) => y = (undef : Value),
       fun (y : Value) (u : World) => y = (undef : Value),
       fun (y : Value) (u : World) => y = (.bool false : Value),
       fun (y : Value) (u : World) => y = (.bool false : Value)]
      (by kernel_rfl) (by kernel_rfl) (by kernel_rfl) (by kernel_rfl) (F.kp (Kp.refl _).drew) (fun _ _ hk h => h.kp hk) ⟨fun _ _ _ _ h => h, fun _ _ _ _ h => h, fun _ _ _ _ h => h, fun _ _ _ _ h => h, fun _ _ _ hk h => h.kp hk, fun _ _ _ _ h => h, fun _ _ _ hk h => h.kp hk, fun _ _ _ _ h => h, fun _ _ _ _ h => h, fun _ _ _ _ h => h, fun _ _ _ _ h => h, fun _ _ _ _ h => h, fun _ _ _ _ h => h, fun _ _ _ _ h => h, fun _ _ _ _ h => h, fun _ _ _ _ h => h, fun _ _ _ _ h => h, fun _ _ _ _ h => h, trivial⟩ ⟨?sd0, ?sd1, ?sd2, ?sd3, ?sd4, ?sd5, ?sd6, ?sd7, ?sd8, ?sd9, ?sd10, ?sd11, ?sd12, ?sd13, ?sd14, ?sd15, ?sd16, ?sd17, trivial⟩ ?hEd
    case sd0 =>
      intro x u hg hd K hK
      clear hd
      refine ⟨?_⟩
      simp only [putsFrom, Act.put, List.setIfInBounds_toArray, List.set_cons_zero, List.set_cons_succ, Nat.reduceAdd] at hK ⊢
      go_simp
      go_at_call 31
      have hc := shown_any u
      refine hc.mono ?_
      clear hc
      rintro e u' ⟨rfl, hk⟩
      dsimp only
      exact hK.out _ _ hk rfl
    case sd1 =>
      intro x u hg hd K hK
      have d0 : (x 0) = .bool true := And.left hd
      clear hd
      refine ⟨?_⟩
      simp only [putsFrom, Act.put, List.setIfInBounds_toArray, List.set_cons_zero, List.set_cons_succ, Nat.reduceAdd, d0] at hK ⊢
      go_simp
      exact hK.out _ _ (Kp.refl _) rfl
    case sd2 =>
      intro x u hg hd K hK
      have d1 : (x 1) = .bool false := And.left hd
      clear hd
      refine ⟨?_⟩
      simp only [putsFrom, Act.put, List.setIfInBounds_toArray, List.set_cons_zero, List.set_cons_succ, Nat.reduceAdd, d1] at hK ⊢
      go_simp
      exact hK.out _ _ (Kp.refl _) rfl
    case sd3 =>
      intro x u hg hd K hK
      have d2 : (x 2) = .bool false := And.left hd
      clear hd
      refine ⟨?_⟩
      simp only [putsFrom, Act.put, List.setIfInBounds_toArray, List.set_cons_zero, List.set_cons_succ, Nat.reduceAdd, d2] at hK ⊢
      go_simp
      exact hK.out _ _ (Kp.refl _) rfl
    case sd4 =>
      intro x u hg hd K hK
      have d2 : (x 2) = .bool false := And.left hd
      have d3 : (x 3) = .agg #[.int .i64 a0.k, .int .i64 a0.n, .string a0.s, la] := And.left (And.right hd)
      clear hd
      refine ⟨?_⟩
      simp only [putsFrom, Act.put, List.setIfInBounds_toArray, List.set_cons_zero, List.set_cons_succ, Nat.reduceAdd, d2, d3] at hK ⊢
      go_simp
      go_at_call 29
      have hc := own_k R0 hg.k
      refine hc.mono ?_
      clear hc
      rintro e u' ⟨v1, rfl, hr, hk⟩
      dsimp only
      exact hK.out _ _ hk hr
    case sd5 =>
      intro x u hg hd K hK
      have d2 : (x 2) = .bool false := And.left hd
      clear hd
      refine ⟨?_⟩
      simp only [putsFrom, Act.put, List.setIfInBounds_toArray, List.set_cons_zero, List.set_cons_succ, Nat.reduceAdd, d2] at hK ⊢
      go_simp
      exact hK.out _ _ (Kp.refl _) rfl
    case sd6 =>
      intro x u hg hd K hK
      have d2 : (x 2) = .bool false := And.left hd
      have d5 : (x 5) = .agg #[.int .i64 a1.k, .int .i64 a1.n, .string a1.s, lb] := And.left (And.right hd)
      clear hd
      refine ⟨?_⟩
      simp only [putsFrom, Act.put, List.setIfInBounds_toArray, List.set_cons_zero, List.set_cons_succ, Nat.reduceAdd, d2, d5] at hK ⊢
      go_simp
      go_at_call 29
      have hc := own_k R1 hg.k
      refine hc.mono ?_
      clear hc
      rintro e u' ⟨v1, rfl, hr, hk⟩
      dsimp only
      exact hK.out _ _ hk hr
    case sd7 =>
      intro x u hg hd K hK
      have d2 : (x 2) = .bool false := And.left hd
      have d4 : RdVal u (x 4) a0 := And.left (And.right hd)
      have d6 : RdVal u (x 6) a1 := And.left (And.right (And.right hd))
      clear hd
      refine ⟨?_⟩
      simp only [putsFrom, Act.put, List.setIfInBounds_toArray, List.set_cons_zero, List.set_cons_succ, Nat.reduceAdd, d2] at hK ⊢
      go_simp
      go_at_call 30
      have hc := same_is d4 (Kp.refl _) d6 hs
      refine hc.mono ?_
      clear hc
      rintro e u' ⟨rfl, hk⟩
      dsimp only
      exact hK.out _ _ hk rfl
    case sd8 =>
      intro x u hg hd K hK
      have d2 : (x 2) = .bool false := And.left hd
      have d7 : (x 7) = .bool false := And.left (And.right hd)
      clear hd
      refine ⟨?_⟩
      simp only [putsFrom, Act.put, List.setIfInBounds_toArray, List.set_cons_zero, List.set_cons_succ, Nat.reduceAdd, d2, d7] at hK ⊢
      go_simp
      exact hK.out _ _ (Kp.refl _) rfl
    case sd9 =>
      intro x u hg hd K hK
      have d8 : (x 8) = .bool false := And.left hd
      clear hd
      refine ⟨?_⟩
      simp only [putsFrom, Act.put, List.setIfInBounds_toArray, List.set_cons_zero, List.set_cons_succ, Nat.reduceAdd, d8] at hK ⊢
      go_simp
      exact hK.out _ _ (Kp.refl _) rfl
    case sd10 =>
      intro x u hg hd K hK
      have d8 : (x 8) = .bool false := And.left hd
      have d9 : (x 9) = undef := And.left (And.right hd)
      clear hd
      refine ⟨?_⟩
      simp only [putsFrom, Act.put, List.setIfInBounds_toArray, List.set_cons_zero, List.set_cons_succ, Nat.reduceAdd, d8, d9] at hK ⊢
      go_simp
      exact hK.out _ _ (Kp.refl _) rfl
    case sd11 =>
      intro x u hg hd K hK
      have d8 : (x 8) = .bool false := And.left hd
      have d10 : (x 10) = undef := And.left (And.right hd)
      clear hd
      refine ⟨?_⟩
      simp only [putsFrom, Act.put, List.setIfInBounds_toArray, List.set_cons_zero, List.set_cons_succ, Nat.reduceAdd, d8, d10] at hK ⊢
      go_simp
      exact hK.out _ _ (Kp.refl _) rfl
    case sd12 =>
      intro x u hg hd K hK
      have d8 : (x 8) = .bool false := And.left hd
      clear hd
      refine ⟨?_⟩
      simp only [putsFrom, Act.put, List.setIfInBounds_toArray, List.set_cons_zero, List.set_cons_succ, Nat.reduceAdd, d8] at hK ⊢
      go_simp
      exact hK.out _ _ (Kp.refl _) rfl
    case sd13 =>
      intro x u hg hd K hK
      have d8 : (x 8) = .bool false := And.left hd
      have d12 : (x 12) = undef := And.left (And.right hd)
      clear hd
      refine ⟨?_⟩
      simp only [putsFrom, Act.put, List.setIfInBounds_toArray, List.set_cons_zero, List.set_cons_succ, Nat.reduceAdd, d8, d12] at hK ⊢
      go_simp
      exact hK.out _ _ (Kp.refl _) rfl
    case sd14 =>
      intro x u hg hd K hK
      have d8 : (x 8) = .bool false := And.left hd
      have d13 : (x 13) = undef := And.left (And.right hd)
      clear hd
      refine ⟨?_⟩
      simp only [putsFrom, Act.put, List.setIfInBounds_toArray, List.set_cons_zero, List.set_cons_succ, Nat.reduceAdd, d8, d13] at hK ⊢
      go_simp
      exact hK.out _ _ (Kp.refl _) rfl
    case sd15 =>
      intro x u hg hd K hK
      have d8 : (x 8) = .bool false := And.left hd
      have d11 : (x 11) = undef := And.left (And.right hd)
      have d14 : (x 14) = undef := And.left (And.right (And.right hd))
      clear hd
      refine ⟨?_⟩
      simp only [putsFrom, Act.put, List.setIfInBounds_toArray, List.set_cons_zero, List.set_cons_succ, Nat.reduceAdd, d8, d11, d14] at hK ⊢
      go_simp
      exact hK.out _ _ (Kp.refl _) rfl
    case sd16 =>
      intro x u hg hd K hK
      have d2 : (x 2) = .bool false := And.left hd
      have d8 : (x 8) = .bool false := And.left (And.right hd)
      have d15 : (x 15) = undef := And.left (And.right (And.right hd))
      clear hd
      refine ⟨?_⟩
      simp only [putsFrom, Act.put, List.setIfInBounds_toArray, List.set_cons_zero, List.set_cons_succ, Nat.reduceAdd, d2, d8, d15] at hK ⊢
      go_simp
      exact hK.out _ _ (Kp.refl _) rfl
    case sd17 =>
      intro x u hg hd K hK
      have d2 : (x 2) = .bool false := And.left hd
      have d16 : (x 16) = .bool false := And.left (And.right hd)
      clear hd
      refine ⟨?_⟩
      simp only [putsFrom, Act.put, List.setIfInBounds_toArray, List.set_cons_zero, List.set_cons_succ, Nat.reduceAdd, d2, d16] at hK ⊢
      go_simp
      exact hK.out _ _ (Kp.refl _) rfl
    intro x u hg he
    have d0 : (x 0) = .bool true := And.left he
    have d1 : (x 1) = .bool false := And.left (And.right he)
    have d2 : (x 2) = .bool false := And.left (And.right (And.right he))
    have d3 : (x 3) = .agg #[.int .i64 a0.k, .int .i64 a0.n, .string a0.s, la] := And.left (And.right (And.right (And.right he)))
    have d4 : RdVal u (x 4) a0 := And.left (And.right (And.right (And.right (And.right he))))
    have d5 : (x 5) = .agg #[.int .i64 a1.k, .int .i64 a1.n, .string a1.s, lb] := And.left (And.right (And.right (And.right (And.right (And.right he)))))
    have d6 : RdVal u (x 6) a1 := And.left (And.right (And.right (And.right (And.right (And.right (And.right he))))))
    have d7 : (x 7) = .bool false := And.left (And.right (And.right (And.right (And.right (And.right (And.right (And.right he)))))))
    have d8 : (x 8) = .bool false := And.left (And.right (And.right (And.right (And.right (And.right (And.right (And.right (And.right he))))))))
    have d9 : (x 9) = undef := And.left (And.right (And.right (And.right (And.right (And.right (And.right (And.right (And.right (And.right he)))))))))
    have d10 : (x 10) = undef := And.left (And.right (And.right (And.right (And.right (And.right (And.right (And.right (And.right (And.right (And.right he))))))))))
    have d11 : (x 11) = undef := And.left (And.right (And.right (And.right (And.right (And.right (And.right (And.right (And.right (And.right (And.right (And.right he)))))))))))
    have d12 : (x 12) = undef := And.left (And.right (And.right (And.right (And.right (And.right (And.right (And.right (And.right (And.right (And.right (And.right (And.right he))))))))))))
    have d13 : (x 13) = undef := And.left (And.right (And.right (And.right (And.right (And.right (And.right (And.right (And.right (And.right (And.right (And.right (And.right (And.right he)))))))))))))
    have d14 : (x 14) = undef := And.left (And.right (And.right (And.right (And.right (And.right (And.right (And.right (And.right (And.right (And.right (And.right (And.right (And.right (And.right he))))))))))))))
    have d15 : (x 15) = undef := And.left (And.right (And.right (And.right (And.right (And.right (And.right (And.right (And.right (And.right (And.right (And.right (And.right (And.right (And.right (And.right he)))))))))))))))
    have d16 : (x 16) = .bool false := And.left (And.right (And.right (And.right (And.right (And.right (And.right (And.right (And.right (And.right (And.right (And.right (And.right (And.right (And.right (And.right (And.right he))))))))))))))))
    have d17 : (x 17) = .bool false := And.left (And.right (And.right (And.right (And.right (And.right (And.right (And.right (And.right (And.right (And.right (And.right (And.right (And.right (And.right (And.right (And.right (And.right he)))))))))))))))))
    clear he
    refine ⟨?_⟩
    simp only [putsFrom, Act.put, List.setIfInBounds_toArray, List.set_cons_zero, List.set_cons_succ, Nat.reduceAdd, d0, d1, d2, d3, d5, d7, d8, d9, d10, d11, d12, d13, d14, d15, d16, d17]
    clear d0 d1 d2 d3 d5 d7 d8 d9 d10 d11 d12 d13 d14 d15 d16 d17
    go_wp2_with fail
    have G3 := hg
    clear hg
    refine wp_region_kp [[], [0], [1], [], [3], [4], [2, 5], [6], [7], [7, 8], [7], [7, 10], [7, 9, 11], [7, 12], [13], [14], [14, 15], [14], [14, 17], [14, 16, 18], [14, 19], [20], [21], [21, 22], [21], [21, 24], [21, 23, 25], [21, 26], [27], [28], [28, 29], [28, 30], [28], [28, 32], [28, 33], [28, 31, 34], [28, 35], [36], [37], [37, 38], [37, 39], [37], [37, 41], [37, 42], [37, 40, 43], [37, 44], [45]] (Held4 W1 w.heap.size (w.heap.size + 1) w2.heap.size w4.heap.size a0 a1 pm pm la lb (.slice Ap pm.l.length cp) (.slice Aq pm.l.length cq))
      [fun (y : Value) (u : World) => y = (.agg #[.int .i64 pm.k, .int .i64 pm.n, .string pm.s, .slice Ap pm.l.length cp] : Value),
       fun (y : Value) (u : World) => RdVal u y pm,
       fun (y : Value) (u : World) => y = (.string (showM a0) : Value),
       fun (y : Value) (u : World) => y = (.agg #[.int .i64 a0.k, .int .i64 a0.n, .string a0.s, la] : Value),
       fun (y : Value) (u : World) => RdVal u y a0,
       fun (y : Value) (u : World) => y = (.string (showM a0) : Value),
       fun (y : Value) (u : World) => y = (.bool true : Value),
       fun (y : Value) (u : World) => y = (.bool true : Value),
       fun (y : Value) (u : World) => y = (.agg #[.int .i64 pm.k, .int .i64 pm.n, .string pm.s, .slice Ap pm.l.length cp] : Value),
       fun (y : Value) (u : World) => RdVal u y pm,
       fun (y : Value) (u : World) => y = (.agg #[.int .i64 pm.k, .int .i64 pm.n, .string pm.s, .slice Aq pm.l.length cq] : Value),
       fun (y : Value) (u : World) => RdVal u y pm,
       fun (y : Value) (u : World) => y = (.bool true : Value),
       fun (y : Value) (u : World) => y = (.bool true : Value),
       fun (y : Value) (u : World) => y = (.bool true : Value),
       fun (y : Value) (u : World) => y = (.pointer (some ⟨w2.heap.size, 1, none⟩) : Value),
       fun (y : Value) (u : World) => y = (.int .i64 pm.n : Value),
       fun (y : Value) (u : World) => y = (.pointer (some ⟨w4.heap.size, 1, none⟩) : Value),
       fun (y : Value) (u : World) => y = (.int .i64 pm.n : Value),
       fun (y : Value) (u : World) => y = (.bool true : Value),
       fun (y : Value) (u : World) => y = (.bool true : Value),
       fun (y : Value) (u : World) => y = (.bool true : Value),
       fun (y : Value) (u : World) => y = (.pointer (some ⟨w2.heap.size, 2, none⟩) : Value),
       fun (y : Value) (u : World) => y = (.string pm.s : Value),
       fun (y : Value) (u : World) => y = (.pointer (some ⟨w4.heap.size, 2, none⟩) : Value),
       fun (y : Value) (u : World) => y = (.string pm.s : Value),
       fun (y : Value) (u : World) => y = (.bool true : Value),
       fun (y : Value) (u : World) => y = (.bool true : Value),
       fun (y : Value) (u : World) => y = (.bool true : Value),
       fun (y : Value) (u : World) => y = (.pointer (some ⟨w2.heap.size, 3, none⟩) : Value),
       fun (y : Value) (u : World) => y = (.slice Ap pm.l.length cp : Value),
       fun (y : Value) (u : World) => y = (.int .i64 (pm.l.length : Int) : Value),
       fun (y : Value) (u : World) => y = (.pointer (some ⟨w4.heap.size, 3, none⟩) : Value),
       fun (y : Value) (u : World) => y = (.slice Aq pm.l.length cq : Value),
       fun (y : Value) (u : World) => y = (.int .i64 (pm.l.length : Int) : Value),
       fun (y : Value) (u : World) => y = (.bool true : Value),
       fun (y : Value) (u : World) => y = (.bool true : Value),
       fun (y : Value) (u : World) => y = (.bool true : Value),
       fun (y : Value) (u : World) => y = (.agg #[.int .i64 a0.k, .int .i64 a0.n, .string a0.s, la] : Value),
       fun (y : Value) (u : World) => RdVal u y a0,
       fun (y : Value) (u : World) => y = (.bool mb : Value),
       fun (y : Value) (u : World) => y = (.agg #[.int .i64 pm.k, .int .i64 pm.n, .string pm.s, .slice Ap pm.l.length cp] : Value),
       fun (y : Value) (u : World) => RdVal u y pm,
       fun (y : Value) (u : World) => y = (.bool mb : Value),
       fun (y : Value) (u : World) => y = (.bool true : Value),
       fun (y : Value) (u : World) => y = (.bool true : Value),
       fun (y : Value) (u : World) => y = (.bool true : Value)]
      (by kernel_rfl) (by kernel_rfl) (by kernel_rfl) (by kernel_rfl) (G3.kp (Kp.refl _).drew) (fun _ _ hk h => h.kp hk) ⟨fun _ _ _ _ h => h, fun _ _ _ hk h => h.kp hk, fun _ _ _ _ h => h, fun _ _ _ _ h => h, fun _ _ _ hk h => h.kp hk, fun _ _ _ _ h => h, fun _ _ _ _ h => h, fun _ _ _ _ h => h, fun _ _ _ _ h => h, fun _ _ _ hk h => h.kp hk, fun _ _ _ _ h => h, fun _ _ _ hk h => h.kp hk, fun _ _ _ _ h => h, fun _ _ _ _ h => h, fun _ _ _ _ h => h, fun _ _ _ _ h => h, fun _ _ _ _ h => h, fun _ _ _ _ h => h, fun _ _ _ _ h => h, fun _ _ _ _ h => h, fun _ _ _ _ h => h, fun _ _ _ _ h => h, fun _ _ _ _ h => h, fun _ _ _ _ h => h, fun _ _ _ _ h => h, fun _ _ _ _ h => h, fun _ _ _ _ h => h, fun _ _ _ _ h => h, fun _ _ _ _ h => h, fun _ _ _ _ h => h, fun _ _ _ _ h => h, fun _ _ _ _ h => h, fun _ _ _ _ h => h, fun _ _ _ _ h => h, fun _ _ _ _ h => h, fun _ _ _ _ h => h, fun _ _ _ _ h => h, fun _ _ _ _ h => h, fun _ _ _ _ h => h, fun _ _ _ hk h => h.kp hk, fun _ _ _ _ h => h, fun _ _ _ _ h => h, fun _ _ _ hk h => h.kp hk, fun _ _ _ _ h => h, fun _ _ _ _ h => h, fun _ _ _ _ h => h, fun _ _ _ _ h => h, trivial⟩ ⟨?se0, ?se1, ?se2, ?se3, ?se4, ?se5, ?se6, ?se7, ?se8, ?se9, ?se10, ?se11, ?se12, ?se13, ?se14, ?se15, ?se16, ?se17, ?se18, ?se19, ?se20, ?se21, ?se22, ?se23, ?se24, ?se25, ?se26, ?se27, ?se28, ?se29, ?se30, ?se31, ?se32, ?se33, ?se34, ?se35, ?se36, ?se37, ?se38, ?se39, ?se40, ?se41, ?se42, ?se43, ?se44, ?se45, ?se46, trivial⟩ ?hEe
    case se0 =>
      intro x u hg hd K hK
      clear hd
      refine ⟨?_⟩
      simp only [putsFrom, Act.put, List.setIfInBounds_toArray, List.set_cons_zero, List.set_cons_succ, Nat.reduceAdd] at hK ⊢
      go_simp
      exact hK.out _ _ (Kp.refl _) rfl
    case se1 =>
      intro x u hg hd K hK
      have d0 : (x 0) = .agg #[.int .i64 pm.k, .int .i64 pm.n, .string pm.s, .slice Ap pm.l.length cp] := And.left hd
      clear hd
      refine ⟨?_⟩
      simp only [putsFrom, Act.put, List.setIfInBounds_toArray, List.set_cons_zero, List.set_cons_succ, Nat.reduceAdd, d0] at hK ⊢
      go_simp
      go_at_call 29
      have hc := own_k RP hg.k
      refine hc.mono ?_
      clear hc
      rintro e u' ⟨v1, rfl, hr, hk⟩
      dsimp only
      exact hK.out _ _ hk hr
    case se2 =>
      intro x u hg hd K hK
      have d1 : RdVal u (x 1) pm := And.left hd
      clear hd
      refine ⟨?_⟩
      simp only [putsFrom, Act.put, List.setIfInBounds_toArray, List.set_cons_zero, List.set_cons_succ, Nat.reduceAdd] at hK ⊢
      go_simp
      go_at_call 34
      have hc := show_is d1 NP SP
      refine hc.mono ?_
      clear hc
      rintro e u' ⟨rfl, hk⟩
      dsimp only
      exact hK.out _ _ hk rfl
    case se3 =>
      intro x u hg hd K hK
      clear hd
      refine ⟨?_⟩
      simp only [putsFrom, Act.put, List.setIfInBounds_toArray, List.set_cons_zero, List.set_cons_succ, Nat.reduceAdd] at hK ⊢
      go_simp
      exact hK.out _ _ (Kp.refl _) rfl
    case se4 =>
      intro x u hg hd K hK
      have d3 : (x 3) = .agg #[.int .i64 a0.k, .int .i64 a0.n, .string a0.s, la] := And.left hd
      clear hd
      refine ⟨?_⟩
      simp only [putsFrom, Act.put, List.setIfInBounds_toArray, List.set_cons_zero, List.set_cons_succ, Nat.reduceAdd, d3] at hK ⊢
      go_simp
      go_at_call 29
      have hc := own_k R0 hg.k
      refine hc.mono ?_
      clear hc
      rintro e u' ⟨v1, rfl, hr, hk⟩
      dsimp only
      exact hK.out _ _ hk hr
    case se5 =>
      intro x u hg hd K hK
      have d4 : RdVal u (x 4) a0 := And.left hd
      clear hd
      refine ⟨?_⟩
      simp only [putsFrom, Act.put, List.setIfInBounds_toArray, List.set_cons_zero, List.set_cons_succ, Nat.reduceAdd] at hK ⊢
      go_simp
      go_at_call 34
      have hc := show_is d4 N0 (hid rfl)
      refine hc.mono ?_
      clear hc
      rintro e u' ⟨rfl, hk⟩
      dsimp only
      exact hK.out _ _ hk rfl
    case se6 =>
      intro x u hg hd K hK
      have d2 : (x 2) = .string (showM a0) := And.left hd
      have d5 : (x 5) = .string (showM a0) := And.left (And.right hd)
      clear hd
      refine ⟨?_⟩
      simp only [putsFrom, Act.put, List.setIfInBounds_toArray, List.set_cons_zero, List.set_cons_succ, Nat.reduceAdd, d2, d5] at hK ⊢
      go_simp
      exact hK.out _ _ (Kp.refl _) rfl
    case se7 =>
      intro x u hg hd K hK
      have d6 : (x 6) = .bool true := And.left hd
      clear hd
      refine ⟨?_⟩
      simp only [putsFrom, Act.put, List.setIfInBounds_toArray, List.set_cons_zero, List.set_cons_succ, Nat.reduceAdd, d6] at hK ⊢
      go_simp
      exact hK.out _ _ (Kp.refl _) rfl
    case se8 =>
      intro x u hg hd K hK
      have d7 : (x 7) = .bool true := And.left hd
      clear hd
      refine ⟨?_⟩
      simp only [putsFrom, Act.put, List.setIfInBounds_toArray, List.set_cons_zero, List.set_cons_succ, Nat.reduceAdd, d7] at hK ⊢
      go_simp
      exact hK.out _ _ (Kp.refl _) rfl
    case se9 =>
      intro x u hg hd K hK
      have d7 : (x 7) = .bool true := And.left hd
      have d8 : (x 8) = .agg #[.int .i64 pm.k, .int .i64 pm.n, .string pm.s, .slice Ap pm.l.length cp] := And.left (And.right hd)
      clear hd
      refine ⟨?_⟩
      simp only [putsFrom, Act.put, List.setIfInBounds_toArray, List.set_cons_zero, List.set_cons_succ, Nat.reduceAdd, d7, d8] at hK ⊢
      go_simp
      go_at_call 29
      have hc := own_k RP hg.k
      refine hc.mono ?_
      clear hc
      rintro e u' ⟨v1, rfl, hr, hk⟩
      dsimp only
      exact hK.out _ _ hk hr
    case se10 =>
      intro x u hg hd K hK
      have d7 : (x 7) = .bool true := And.left hd
      clear hd
      refine ⟨?_⟩
      simp only [putsFrom, Act.put, List.setIfInBounds_toArray, List.set_cons_zero, List.set_cons_succ, Nat.reduceAdd, d7] at hK ⊢
      go_simp
      exact hK.out _ _ (Kp.refl _) rfl
    case se11 =>
      intro x u hg hd K hK
      have d7 : (x 7) = .bool true := And.left hd
      have d10 : (x 10) = .agg #[.int .i64 pm.k, .int .i64 pm.n, .string pm.s, .slice Aq pm.l.length cq] := And.left (And.right hd)
      clear hd
      refine ⟨?_⟩
      simp only [putsFrom, Act.put, List.setIfInBounds_toArray, List.set_cons_zero, List.set_cons_succ, Nat.reduceAdd, d7, d10] at hK ⊢
      go_simp
      go_at_call 29
      have hc := own_k RQ hg.k
      refine hc.mono ?_
      clear hc
      rintro e u' ⟨v1, rfl, hr, hk⟩
      dsimp only
      exact hK.out _ _ hk hr
    case se12 =>
      intro x u hg hd K hK
      have d7 : (x 7) = .bool true := And.left hd
      have d9 : RdVal u (x 9) pm := And.left (And.right hd)
      have d11 : RdVal u (x 11) pm := And.left (And.right (And.right hd))
      clear hd
      refine ⟨?_⟩
      simp only [putsFrom, Act.put, List.setIfInBounds_toArray, List.set_cons_zero, List.set_cons_succ, Nat.reduceAdd, d7] at hK ⊢
      go_simp
      go_at_call 30
      have hc := same_is d9 (Kp.refl _) d11 SR
      refine hc.mono ?_
      clear hc
      rintro e u' ⟨rfl, hk⟩
      dsimp only
      exact hK.out _ _ hk rfl
    case se13 =>
      intro x u hg hd K hK
      have d7 : (x 7) = .bool true := And.left hd
      have d12 : (x 12) = .bool true := And.left (And.right hd)
      clear hd
      refine ⟨?_⟩
      simp only [putsFrom, Act.put, List.setIfInBounds_toArray, List.set_cons_zero, List.set_cons_succ, Nat.reduceAdd, d7, d12] at hK ⊢
      go_simp
      exact hK.out _ _ (Kp.refl _) rfl
    case se14 =>
      intro x u hg hd K hK
      have d13 : (x 13) = .bool true := And.left hd
      clear hd
      refine ⟨?_⟩
      simp only [putsFrom, Act.put, List.setIfInBounds_toArray, List.set_cons_zero, List.set_cons_succ, Nat.reduceAdd, d13] at hK ⊢
      go_simp
      exact hK.out _ _ (Kp.refl _) rfl
    case se15 =>
      intro x u hg hd K hK
      have d14 : (x 14) = .bool true := And.left hd
      clear hd
      refine ⟨?_⟩
      simp only [putsFrom, Act.put, List.setIfInBounds_toArray, List.set_cons_zero, List.set_cons_succ, Nat.reduceAdd, d14] at hK ⊢
      go_simp
      exact hK.out _ _ (Kp.refl _) rfl
    case se16 =>
      intro x u hg hd K hK
      have d14 : (x 14) = .bool true := And.left hd
      have d15 : (x 15) = .pointer (some ⟨w2.heap.size, 1, none⟩) := And.left (And.right hd)
      clear hd
      refine ⟨?_⟩
      simp only [putsFrom, Act.put, List.setIfInBounds_toArray, List.set_cons_zero, List.set_cons_succ, Nat.reduceAdd, d14, d15] at hK ⊢
      go_simp
      exact hK.out _ _ (Kp.refl _) rfl
    case se17 =>
      intro x u hg hd K hK
      have d14 : (x 14) = .bool true := And.left hd
      clear hd
      refine ⟨?_⟩
      simp only [putsFrom, Act.put, List.setIfInBounds_toArray, List.set_cons_zero, List.set_cons_succ, Nat.reduceAdd, d14] at hK ⊢
      go_simp
      exact hK.out _ _ (Kp.refl _) rfl
    case se18 =>
      intro x u hg hd K hK
      have d14 : (x 14) = .bool true := And.left hd
      have d17 : (x 17) = .pointer (some ⟨w4.heap.size, 1, none⟩) := And.left (And.right hd)
      clear hd
      refine ⟨?_⟩
      simp only [putsFrom, Act.put, List.setIfInBounds_toArray, List.set_cons_zero, List.set_cons_succ, Nat.reduceAdd, d14, d17] at hK ⊢
      go_simp
      exact hK.out _ _ (Kp.refl _) rfl
    case se19 =>
      intro x u hg hd K hK
      have d14 : (x 14) = .bool true := And.left hd
      have d16 : (x 16) = .int .i64 pm.n := And.left (And.right hd)
      have d18 : (x 18) = .int .i64 pm.n := And.left (And.right (And.right hd))
      clear hd
      refine ⟨?_⟩
      simp only [putsFrom, Act.put, List.setIfInBounds_toArray, List.set_cons_zero, List.set_cons_succ, Nat.reduceAdd, d14, d16, d18] at hK ⊢
      go_simp
      exact hK.out _ _ (Kp.refl _) rfl
    case se20 =>
      intro x u hg hd K hK
      have d14 : (x 14) = .bool true := And.left hd
      have d19 : (x 19) = .bool true := And.left (And.right hd)
      clear hd
      refine ⟨?_⟩
      simp only [putsFrom, Act.put, List.setIfInBounds_toArray, List.set_cons_zero, List.set_cons_succ, Nat.reduceAdd, d14, d19] at hK ⊢
      go_simp
      exact hK.out _ _ (Kp.refl _) rfl
    case se21 =>
      intro x u hg hd K hK
      have d20 : (x 20) = .bool true := And.left hd
      clear hd
      refine ⟨?_⟩
      simp only [putsFrom, Act.put, List.setIfInBounds_toArray, List.set_cons_zero, List.set_cons_succ, Nat.reduceAdd, d20] at hK ⊢
      go_simp
      exact hK.out _ _ (Kp.refl _) rfl
    case se22 =>
      intro x u hg hd K hK
      have d21 : (x 21) = .bool true := And.left hd
      clear hd
      refine ⟨?_⟩
      simp only [putsFrom, Act.put, List.setIfInBounds_toArray, List.set_cons_zero, List.set_cons_succ, Nat.reduceAdd, d21] at hK ⊢
      go_simp
      exact hK.out _ _ (Kp.refl _) rfl
    case se23 =>
      intro x u hg hd K hK
      have d21 : (x 21) = .bool true := And.left hd
      have d22 : (x 22) = .pointer (some ⟨w2.heap.size, 2, none⟩) := And.left (And.right hd)
      clear hd
      refine ⟨?_⟩
      simp only [putsFrom, Act.put, List.setIfInBounds_toArray, List.set_cons_zero, List.set_cons_succ, Nat.reduceAdd, d21, d22] at hK ⊢
      go_simp
      exact hK.out _ _ (Kp.refl _) rfl
    case se24 =>
      intro x u hg hd K hK
      have d21 : (x 21) = .bool true := And.left hd
      clear hd
      refine ⟨?_⟩
      simp only [putsFrom, Act.put, List.setIfInBounds_toArray, List.set_cons_zero, List.set_cons_succ, Nat.reduceAdd, d21] at hK ⊢
      go_simp
      exact hK.out _ _ (Kp.refl _) rfl
    case se25 =>
      intro x u hg hd K hK
      have d21 : (x 21) = .bool true := And.left hd
      have d24 : (x 24) = .pointer (some ⟨w4.heap.size, 2, none⟩) := And.left (And.right hd)
      clear hd
      refine ⟨?_⟩
      simp only [putsFrom, Act.put, List.setIfInBounds_toArray, List.set_cons_zero, List.set_cons_succ, Nat.reduceAdd, d21, d24] at hK ⊢
      go_simp
      exact hK.out _ _ (Kp.refl _) rfl
    case se26 =>
      intro x u hg hd K hK
      have d21 : (x 21) = .bool true := And.left hd
      have d23 : (x 23) = .string pm.s := And.left (And.right hd)
      have d25 : (x 25) = .string pm.s := And.left (And.right (And.right hd))
      clear hd
      refine ⟨?_⟩
      simp only [putsFrom, Act.put, List.setIfInBounds_toArray, List.set_cons_zero, List.set_cons_succ, Nat.reduceAdd, d21, d23, d25] at hK ⊢
      go_simp
      exact hK.out _ _ (Kp.refl _) rfl
    case se27 =>
      intro x u hg hd K hK
      have d21 : (x 21) = .bool true := And.left hd
      have d26 : (x 26) = .bool true := And.left (And.right hd)
      clear hd
      refine ⟨?_⟩
      simp only [putsFrom, Act.put, List.setIfInBounds_toArray, List.set_cons_zero, List.set_cons_succ, Nat.reduceAdd, d21, d26] at hK ⊢
      go_simp
      exact hK.out _ _ (Kp.refl _) rfl
    case se28 =>
      intro x u hg hd K hK
      have d27 : (x 27) = .bool true := And.left hd
      clear hd
      refine ⟨?_⟩
      simp only [putsFrom, Act.put, List.setIfInBounds_toArray, List.set_cons_zero, List.set_cons_succ, Nat.reduceAdd, d27] at hK ⊢
      go_simp
      exact hK.out _ _ (Kp.refl _) rfl
    case se29 =>
      intro x u hg hd K hK
      have d28 : (x 28) = .bool true := And.left hd
      clear hd
      refine ⟨?_⟩
      simp only [putsFrom, Act.put, List.setIfInBounds_toArray, List.set_cons_zero, List.set_cons_succ, Nat.reduceAdd, d28] at hK ⊢
      go_simp
      exact hK.out _ _ (Kp.refl _) rfl
    case se30 =>
      intro x u hg hd K hK
      have d28 : (x 28) = .bool true := And.left hd
      have d29 : (x 29) = .pointer (some ⟨w2.heap.size, 3, none⟩) := And.left (And.right hd)
      clear hd
      refine ⟨?_⟩
      simp only [putsFrom, Act.put, List.setIfInBounds_toArray, List.set_cons_zero, List.set_cons_succ, Nat.reduceAdd, d28, d29] at hK ⊢
      go_simp
      exact hK.out _ _ (Kp.refl _) rfl
    case se31 =>
      intro x u hg hd K hK
      have d28 : (x 28) = .bool true := And.left hd
      have d30 : (x 30) = .slice Ap pm.l.length cp := And.left (And.right hd)
      clear hd
      refine ⟨?_⟩
      simp only [putsFrom, Act.put, List.setIfInBounds_toArray, List.set_cons_zero, List.set_cons_succ, Nat.reduceAdd, d28, d30] at hK ⊢
      go_simp
      exact hK.out _ _ (Kp.refl _) rfl
    case se32 =>
      intro x u hg hd K hK
      have d28 : (x 28) = .bool true := And.left hd
      clear hd
      refine ⟨?_⟩
      simp only [putsFrom, Act.put, List.setIfInBounds_toArray, List.set_cons_zero, List.set_cons_succ, Nat.reduceAdd, d28] at hK ⊢
      go_simp
      exact hK.out _ _ (Kp.refl _) rfl
    case se33 =>
      intro x u hg hd K hK
      have d28 : (x 28) = .bool true := And.left hd
      have d32 : (x 32) = .pointer (some ⟨w4.heap.size, 3, none⟩) := And.left (And.right hd)
      clear hd
      refine ⟨?_⟩
      simp only [putsFrom, Act.put, List.setIfInBounds_toArray, List.set_cons_zero, List.set_cons_succ, Nat.reduceAdd, d28, d32] at hK ⊢
      go_simp
      exact hK.out _ _ (Kp.refl _) rfl
    case se34 =>
      intro x u hg hd K hK
      have d28 : (x 28) = .bool true := And.left hd
      have d33 : (x 33) = .slice Aq pm.l.length cq := And.left (And.right hd)
      clear hd
      refine ⟨?_⟩
      simp only [putsFrom, Act.put, List.setIfInBounds_toArray, List.set_cons_zero, List.set_cons_succ, Nat.reduceAdd, d28, d33] at hK ⊢
      go_simp
      exact hK.out _ _ (Kp.refl _) rfl
    case se35 =>
      intro x u hg hd K hK
      have d28 : (x 28) = .bool true := And.left hd
      have d31 : (x 31) = .int .i64 (pm.l.length : Int) := And.left (And.right hd)
      have d34 : (x 34) = .int .i64 (pm.l.length : Int) := And.left (And.right (And.right hd))
      clear hd
      refine ⟨?_⟩
      simp only [putsFrom, Act.put, List.setIfInBounds_toArray, List.set_cons_zero, List.set_cons_succ, Nat.reduceAdd, d28, d31, d34] at hK ⊢
      go_simp
      exact hK.out _ _ (Kp.refl _) rfl
    case se36 =>
      intro x u hg hd K hK
      have d28 : (x 28) = .bool true := And.left hd
      have d35 : (x 35) = .bool true := And.left (And.right hd)
      clear hd
      refine ⟨?_⟩
      simp only [putsFrom, Act.put, List.setIfInBounds_toArray, List.set_cons_zero, List.set_cons_succ, Nat.reduceAdd, d28, d35] at hK ⊢
      go_simp
      exact hK.out _ _ (Kp.refl _) rfl
    case se37 =>
      intro x u hg hd K hK
      have d36 : (x 36) = .bool true := And.left hd
      clear hd
      refine ⟨?_⟩
      simp only [putsFrom, Act.put, List.setIfInBounds_toArray, List.set_cons_zero, List.set_cons_succ, Nat.reduceAdd, d36] at hK ⊢
      go_simp
      exact hK.out _ _ (Kp.refl _) rfl
    case se38 =>
      intro x u hg hd K hK
      have d37 : (x 37) = .bool true := And.left hd
      clear hd
      refine ⟨?_⟩
      simp only [putsFrom, Act.put, List.setIfInBounds_toArray, List.set_cons_zero, List.set_cons_succ, Nat.reduceAdd, d37] at hK ⊢
      go_simp
      exact hK.out _ _ (Kp.refl _) rfl
    case se39 =>
      intro x u hg hd K hK
      have d37 : (x 37) = .bool true := And.left hd
      have d38 : (x 38) = .agg #[.int .i64 a0.k, .int .i64 a0.n, .string a0.s, la] := And.left (And.right hd)
      clear hd
      refine ⟨?_⟩
      simp only [putsFrom, Act.put, List.setIfInBounds_toArray, List.set_cons_zero, List.set_cons_succ, Nat.reduceAdd, d37, d38] at hK ⊢
      go_simp
      go_at_call 29
      have hc := own_k R0 hg.k
      refine hc.mono ?_
      clear hc
      rintro e u' ⟨v1, rfl, hr, hk⟩
      dsimp only
      exact hK.out _ _ hk hr
    case se40 =>
      intro x u hg hd K hK
      have d37 : (x 37) = .bool true := And.left hd
      have d39 : RdVal u (x 39) a0 := And.left (And.right hd)
      clear hd
      refine ⟨?_⟩
      simp only [putsFrom, Act.put, List.setIfInBounds_toArray, List.set_cons_zero, List.set_cons_succ, Nat.reduceAdd, d37] at hK ⊢
      go_simp
      go_at_call 38
      have hc := may_is d39 SM
      refine hc.mono ?_
      clear hc
      rintro e u' ⟨rfl, hk⟩
      dsimp only
      exact hK.out _ _ hk rfl
    case se41 =>
      intro x u hg hd K hK
      have d37 : (x 37) = .bool true := And.left hd
      clear hd
      refine ⟨?_⟩
      simp only [putsFrom, Act.put, List.setIfInBounds_toArray, List.set_cons_zero, List.set_cons_succ, Nat.reduceAdd, d37] at hK ⊢
      go_simp
      exact hK.out _ _ (Kp.refl _) rfl
    case se42 =>
      intro x u hg hd K hK
      have d37 : (x 37) = .bool true := And.left hd
      have d41 : (x 41) = .agg #[.int .i64 pm.k, .int .i64 pm.n, .string pm.s, .slice Ap pm.l.length cp] := And.left (And.right hd)
      clear hd
      refine ⟨?_⟩
      simp only [putsFrom, Act.put, List.setIfInBounds_toArray, List.set_cons_zero, List.set_cons_succ, Nat.reduceAdd, d37, d41] at hK ⊢
      go_simp
      go_at_call 29
      have hc := own_k RP hg.k
      refine hc.mono ?_
      clear hc
      rintro e u' ⟨v1, rfl, hr, hk⟩
      dsimp only
      exact hK.out _ _ hk hr
    case se43 =>
      intro x u hg hd K hK
      have d37 : (x 37) = .bool true := And.left hd
      have d42 : RdVal u (x 42) pm := And.left (And.right hd)
      clear hd
      refine ⟨?_⟩
      simp only [putsFrom, Act.put, List.setIfInBounds_toArray, List.set_cons_zero, List.set_cons_succ, Nat.reduceAdd, d37] at hK ⊢
      go_simp
      go_at_call 38
      have hc := may_is d42 SMP
      refine hc.mono ?_
      clear hc
      rintro e u' ⟨rfl, hk⟩
      dsimp only
      exact hK.out _ _ hk rfl
    case se44 =>
      intro x u hg hd K hK
      have d37 : (x 37) = .bool true := And.left hd
      have d40 : (x 40) = .bool mb := And.left (And.right hd)
      have d43 : (x 43) = .bool mb := And.left (And.right (And.right hd))
      clear hd
      refine ⟨?_⟩
      simp only [putsFrom, Act.put, List.setIfInBounds_toArray, List.set_cons_zero, List.set_cons_succ, Nat.reduceAdd, d37, d40, d43] at hK ⊢
      go_simp
      exact hK.out _ _ (Kp.refl _) rfl
    case se45 =>
      intro x u hg hd K hK
      have d37 : (x 37) = .bool true := And.left hd
      have d44 : (x 44) = .bool true := And.left (And.right hd)
      clear hd
      refine ⟨?_⟩
      simp only [putsFrom, Act.put, List.setIfInBounds_toArray, List.set_cons_zero, List.set_cons_succ, Nat.reduceAdd, d37, d44] at hK ⊢
      go_simp
      exact hK.out _ _ (Kp.refl _) rfl
    case se46 =>
      intro x u hg hd K hK
      have d45 : (x 45) = .bool true := And.left hd
      clear hd
      refine ⟨?_⟩
      simp only [putsFrom, Act.put, List.setIfInBounds_toArray, List.set_cons_zero, List.set_cons_succ, Nat.reduceAdd, d45] at hK ⊢
      go_simp
      exact hK.out _ _ (Kp.refl _) rfl
    intro x u hg he
    have d0 : (x 0) = .agg #[.int .i64 pm.k, .int .i64 pm.n, .string pm.s, .slice Ap pm.l.length cp] := And.left he
    have d1 : RdVal u (x 1) pm := And.left (And.right he)
    have d2 : (x 2) = .string (showM a0) := And.left (And.right (And.right he))
    have d3 : (x 3) = .agg #[.int .i64 a0.k, .int .i64 a0.n, .string a0.s, la] := And.left (And.right (And.right (And.right he)))
    have d4 : RdVal u (x 4) a0 := And.left (And.right (And.right (And.right (And.right he))))
    have d5 : (x 5) = .string (showM a0) := And.left (And.right (And.right (And.right (And.right (And.right he)))))
    have d6 : (x 6) = .bool true := And.left (And.right (And.right (And.right (And.right (And.right (And.right he))))))
    have d7 : (x 7) = .bool true := And.left (And.right (And.right (And.right (And.right (And.right (And.right (And.right he)))))))
    have d8 : (x 8) = .agg #[.int .i64 pm.k, .int .i64 pm.n, .string pm.s, .slice Ap pm.l.length cp] := And.left (And.right (And.right (And.right (And.right (And.right (And.right (And.right (And.right he))))))))
    have d9 : RdVal u (x 9) pm := And.left (And.right (And.right (And.right (And.right (And.right (And.right (And.right (And.right (And.right he)))))))))
    have d10 : (x 10) = .agg #[.int .i64 pm.k, .int .i64 pm.n, .string pm.s, .slice Aq pm.l.length cq] := And.left (And.right (And.right (And.right (And.right (And.right (And.right (And.right (And.right (And.right (And.right he))))))))))
    have d11 : RdVal u (x 11) pm := And.left (And.right (And.right (And.right (And.right (And.right (And.right (And.right (And.right (And.right (And.right (And.right he)))))))))))
    have d12 : (x 12) = .bool true := And.left (And.right (And.right (And.right (And.right (And.right (And.right (And.right (And.right (And.right (And.right (And.right (And.right he))))))))))))
    have d13 : (x 13) = .bool true := And.left (And.right (And.right (And.right (And.right (And.right (And.right (And.right (And.right (And.right (And.right (And.right (And.right (And.right he)))))))))))))
    have d14 : (x 14) = .bool true := And.left (And.right (And.right (And.right (And.right (And.right (And.right (And.right (And.right (And.right (And.right (And.right (And.right (And.right (And.right he))))))))))))))
    have d15 : (x 15) = .pointer (some ⟨w2.heap.size, 1, none⟩) := And.left (And.right (And.right (And.right (And.right (And.right (And.right (And.right (And.right (And.right (And.right (And.right (And.right (And.right (And.right (And.right he)))))))))))))))
    have d16 : (x 16) = .int .i64 pm.n := And.left (And.right (And.right (And.right (And.right (And.right (And.right (And.right (And.right (And.right (And.right (And.right (And.right (And.right (And.right (And.right (And.right he))))))))))))))))
    have d17 : (x 17) = .pointer (some ⟨w4.heap.size, 1, none⟩) := And.left (And.right (And.right (And.right (And.right (And.right (And.right (And.right (And.right (And.right (And.right (And.right (And.right (And.right (And.right (And.right (And.right (And.right he)))))))))))))))))
    have d18 : (x 18) = .int .i64 pm.n := And.left (And.right (And.right (And.right (And.right (And.right (And.right (And.right (And.right (And.right (And.right (And.right (And.right (And.right (And.right (And.right (And.right (And.right (And.right he))))))))))))))))))
    have d19 : (x 19) = .bool true := And.left (And.right (And.right (And.right (And.right (And.right (And.right (And.right (And.right (And.right (And.right (And.right (And.right (And.right (And.right (And.right (And.right (And.right (And.right (And.right he)))))))))))))))))))
    have d20 : (x 20) = .bool true := And.left (And.right (And.right (And.right (And.right (And.right (And.right (And.right (And.right (And.right (And.right (And.right (And.right (And.right (And.right (And.right (And.right (And.right (And.right (And.right (And.right he))))))))))))))))))))
    have d21 : (x 21) = .bool true := And.left (And.right (And.right (And.right (And.right (And.right (And.right (And.right (And.right (And.right (And.right (And.right (And.right (And.right (And.right (And.right (And.right (And.right (And.right (And.right (And.right (And.right he)))))))))))))))))))))
    have d22 : (x 22) = .pointer (some ⟨w2.heap.size, 2, none⟩) := And.left (And.right (And.right (And.right (And.right (And.right (And.right (And.right (And.right (And.right (And.right (And.right (And.right (And.right (And.right (And.right (And.right (And.right (And.right (And.right (And.right (And.right (And.right he))))))))))))))))))))))
    have d23 : (x 23) = .string pm.s := And.left (And.right (And.right (And.right (And.right (And.right (And.right (And.right (And.right (And.right (And.right (And.right (And.right (And.right (And.right (And.right (And.right (And.right (And.right (And.right (And.right (And.right (And.right (And.right he)))))))))))))))))))))))
    have d24 : (x 24) = .pointer (some ⟨w4.heap.size, 2, none⟩) := And.left (And.right (And.right (And.right (And.right (And.right (And.right (And.right (And.right (And.right (And.right (And.right (And.right (And.right (And.right (And.right (And.right (And.right (And.right (And.right (And.right (And.right (And.right (And.right (And.right he))))))))))))))))))))))))
    have d25 : (x 25) = .string pm.s := And.left (And.right (And.right (And.right (And.right (And.right (And.right (And.right (And.right (And.right (And.right (And.right (And.right (And.right (And.right (And.right (And.right (And.right (And.right (And.right (And.right (And.right (And.right (And.right (And.right (And.right he)))))))))))))))))))))))))
    have d26 : (x 26) = .bool true := And.left (And.right (And.right (And.right (And.right (And.right (And.right (And.right (And.right (And.right (And.right (And.right (And.right (And.right (And.right (And.right (And.right (And.right (And.right (And.right (And.right (And.right (And.right (And.right (And.right (And.right (And.right he))))))))))))))))))))))))))
    have d27 : (x 27) = .bool true := And.left (And.right (And.right (And.right (And.right (And.right (And.right (And.right (And.right (And.right (And.right (And.right (And.right (And.right (And.right (And.right (And.right (And.right (And.right (And.right (And.right (And.right (And.right (And.right (And.right (And.right (And.right (And.right he)))))))))))))))))))))))))))
    have d28 : (x 28) = .bool true := And.left (And.right (And.right (And.right (And.right (And.right (And.right (And.right (And.right (And.right (And.right (And.right (And.right (And.right (And.right (And.right (And.right (And.right (And.right (And.right (And.right (And.right (And.right (And.right (And.right (And.right (And.right (And.right (And.right he))))))))))))))))))))))))))))
    have d29 : (x 29) = .pointer (some ⟨w2.heap.size, 3, none⟩) := And.left (And.right (And.right (And.right (And.right (And.right (And.right (And.right (And.right (And.right (And.right (And.right (And.right (And.right (And.right (And.right (And.right (And.right (And.right (And.right (And.right (And.right (And.right (And.right (And.right (And.right (And.right (And.right (And.right (And.right he)))))))))))))))))))))))))))))
    have d30 : (x 30) = .slice Ap pm.l.length cp := And.left (And.right (And.right (And.right (And.right (And.right (And.right (And.right (And.right (And.right (And.right (And.right (And.right (And.right (And.right (And.right (And.right (And.right (And.right (And.right (And.right (And.right (And.right (And.right (And.right (And.right (And.right (And.right (And.right (And.right (And.right he))))))))))))))))))))))))))))))
    have d31 : (x 31) = .int .i64 (pm.l.length : Int) := And.left (And.right (And.right (And.right (And.right (And.right (And.right (And.right (And.right (And.right (And.right (And.right (And.right (And.right (And.right (And.right (And.right (And.right (And.right (And.right (And.right (And.right (And.right (And.right (And.right (And.right (And.right (And.right (And.right (And.right (And.right (And.right he)))))))))))))))))))))))))))))))
    have d32 : (x 32) = .pointer (some ⟨w4.heap.size, 3, none⟩) := And.left (And.right (And.right (And.right (And.right (And.right (And.right (And.right (And.right (And.right (And.right (And.right (And.right (And.right (And.right (And.right (And.right (And.right (And.right (And.right (And.right (And.right (And.right (And.right (And.right (And.right (And.right (And.right (And.right (And.right (And.right (And.right (And.right he))))))))))))))))))))))))))))))))
    have d33 : (x 33) = .slice Aq pm.l.length cq := And.left (And.right (And.right (And.right (And.right (And.right (And.right (And.right (And.right (And.right (And.right (And.right (And.right (And.right (And.right (And.right (And.right (And.right (And.right (And.right (And.right (And.right (And.right (And.right (And.right (And.right (And.right (And.right (And.right (And.right (And.right (And.right (And.right (And.right he)))))))))))))))))))))))))))))))))
    have d34 : (x 34) = .int .i64 (pm.l.length : Int) := And.left (And.right (And.right (And.right (And.right (And.right (And.right (And.right (And.right (And.right (And.right (And.right (And.right (And.right (And.right (And.right (And.right (And.right (And.right (And.right (And.right (And.right (And.right (And.right (And.right (And.right (And.right (And.right (And.right (And.right (And.right (And.right (And.right (And.right (And.right he))))))))))))))))))))))))))))))))))
    have d35 : (x 35) = .bool true := And.left (And.right (And.right (And.right (And.right (And.right (And.right (And.right (And.right (And.right (And.right (And.right (And.right (And.right (And.right (And.right (And.right (And.right (And.right (And.right (And.right (And.right (And.right (And.right (And.right (And.right (And.right (And.right (And.right (And.right (And.right (And.right (And.right (And.right (And.right (And.right he)))))))))))))))))))))))))))))))))))
    have d36 : (x 36) = .bool true := And.left (And.right (And.right (And.right (And.right (And.right (And.right (And.right (And.right (And.right (And.right (And.right (And.right (And.right (And.right (And.right (And.right (And.right (And.right (And.right (And.right (And.right (And.right (And.right (And.right (And.right (And.right (And.right (And.right (And.right (And.right (And.right (And.right (And.right (And.right (And.right (And.right he))))))))))))))))))))))))))))))))))))
    have d37 : (x 37) = .bool true := And.left (And.right (And.right (And.right (And.right (And.right (And.right (And.right (And.right (And.right (And.right (And.right (And.right (And.right (And.right (And.right (And.right (And.right (And.right (And.right (And.right (And.right (And.right (And.right (And.right (And.right (And.right (And.right (And.right (And.right (And.right (And.right (And.right (And.right (And.right (And.right (And.right (And.right he)))))))))))))))))))))))))))))))))))))
    have d38 : (x 38) = .agg #[.int .i64 a0.k, .int .i64 a0.n, .string a0.s, la] := And.left (And.right (And.right (And.right (And.right (And.right (And.right (And.right (And.right (And.right (And.right (And.right (And.right (And.right (And.right (And.right (And.right (And.right (And.right (And.right (And.right (And.right (And.right (And.right (And.right (And.right (And.right (And.right (And.right (And.right (And.right (And.right (And.right (And.right (And.right (And.right (And.right (And.right (And.right he))))))))))))))))))))))))))))))))))))))
    have d39 : RdVal u (x 39) a0 := And.left (And.right (And.right (And.right (And.right (And.right (And.right (And.right (And.right (And.right (And.right (And.right (And.right (And.right (And.right (And.right (And.right (And.right (And.right (And.right (And.right (And.right (And.right (And.right (And.right (And.right (And.right (And.right (And.right (And.right (And.right (And.right (And.right (And.right (And.right (And.right (And.right (And.right (And.right (And.right he)))))))))))))))))))))))))))))))))))))))
    have d40 : (x 40) = .bool mb := And.left (And.right (And.right (And.right (And.right (And.right (And.right (And.right (And.right (And.right (And.right (And.right (And.right (And.right (And.right (And.right (And.right (And.right (And.right (And.right (And.right (And.right (And.right (And.right (And.right (And.right (And.right (And.right (And.right (And.right (And.right (And.right (And.right (And.right (And.right (And.right (And.right (And.right (And.right (And.right (And.right he))))))))))))))))))))))))))))))))))))))))
    have d41 : (x 41) = .agg #[.int .i64 pm.k, .int .i64 pm.n, .string pm.s, .slice Ap pm.l.length cp] := And.left (And.right (And.right (And.right (And.right (And.right (And.right (And.right (And.right (And.right (And.right (And.right (And.right (And.right (And.right (And.right (And.right (And.right (And.right (And.right (And.right (And.right (And.right (And.right (And.right (And.right (And.right (And.right (And.right (And.right (And.right (And.right (And.right (And.right (And.right (And.right (And.right (And.right (And.right (And.right (And.right (And.right he)))))))))))))))))))))))))))))))))))))))))
    have d42 : RdVal u (x 42) pm := And.left (And.right (And.right (And.right (And.right (And.right (And.right (And.right (And.right (And.right (And.right (And.right (And.right (And.right (And.right (And.right (And.right (And.right (And.right (And.right (And.right (And.right (And.right (And.right (And.right (And.right (And.right (And.right (And.right (And.right (And.right (And.right (And.right (And.right (And.right (And.right (And.right (And.right (And.right (And.right (And.right (And.right (And.right he))))))))))))))))))))))))))))))))))))))))))
    have d43 : (x 43) = .bool mb := And.left (And.right (And.right (And.right (And.right (And.right (And.right (And.right (And.right (And.right (And.right (And.right (And.right (And.right (And.right (And.right (And.right (And.right (And.right (And.right (And.right (And.right (And.right (And.right (And.right (And.right (And.right (And.right (And.right (And.right (And.right (And.right (And.right (And.right (And.right (And.right (And.right (And.right (And.right (And.right (And.right (And.right (And.right (And.right he)))))))))))))))))))))))))))))))))))))))))))
    have d44 : (x 44) = .bool true := And.left (And.right (And.right (And.right (And.right (And.right (And.right (And.right (And.right (And.right (And.right (And.right (And.right (And.right (And.right (And.right (And.right (And.right (And.right (And.right (And.right (And.right (And.right (And.right (And.right (And.right (And.right (And.right (And.right (And.right (And.right (And.right (And.right (And.right (And.right (And.right (And.right (And.right (And.right (And.right (And.right (And.right (And.right (And.right (And.right he))))))))))))))))))))))))))))))))))))))))))))
    have d45 : (x 45) = .bool true := And.left (And.right (And.right (And.right (And.right (And.right (And.right (And.right (And.right (And.right (And.right (And.right (And.right (And.right (And.right (And.right (And.right (And.right (And.right (And.right (And.right (And.right (And.right (And.right (And.right (And.right (And.right (And.right (And.right (And.right (And.right (And.right (And.right (And.right (And.right (And.right (And.right (And.right (And.right (And.right (And.right (And.right (And.right (And.right (And.right (And.right he)))))))))))))))))))))))))))))))))))))))))))))
    have d46 : (x 46) = .bool true := And.left (And.right (And.right (And.right (And.right (And.right (And.right (And.right (And.right (And.right (And.right (And.right (And.right (And.right (And.right (And.right (And.right (And.right (And.right (And.right (And.right (And.right (And.right (And.right (And.right (And.right (And.right (And.right (And.right (And.right (And.right (And.right (And.right (And.right (And.right (And.right (And.right (And.right (And.right (And.right (And.right (And.right (And.right (And.right (And.right (And.right (And.right he))))))))))))))))))))))))))))))))))))))))))))))
    clear he
    refine ⟨?_⟩
    simp only [putsFrom, Act.put, List.setIfInBounds_toArray, List.set_cons_zero, List.set_cons_succ, Nat.reduceAdd, d0, d2, d3, d5, d6, d7, d8, d10, d12, d13, d14, d15, d16, d17, d18, d19, d20, d21, d22, d23, d24, d25, d26, d27, d28, d29, d30, d31, d32, d33, d34, d35, d36, d37, d38, d40, d41, d43, d44, d45, d46]
    clear d0 d2 d3 d5 d6 d7 d8 d10 d12 d13 d14 d15 d16 d17 d18 d19 d20 d21 d22 d23 d24 d25 d26 d27 d28 d29 d30 d31 d32 d33 d34 d35 d36 d37 d38 d40 d41 d43 d44 d45 d46
    go_wp2_with fail
    go_ret
    exact ⟨rfl, KW.trans hg.k⟩

/-! ### The row's step (the guide's frame, written by program) -/
set_option maxRecDepth 100000 in
theorem lifted (os : Os) (started : os.Started) (H : Type) (enc : TypeId × Value → H) (F : Stop.Interp) :
    ReturnsInHanded {} Try.checked os 13 .any ((Rows.OpenSpec.upto Rows.valueSeenSpec).pre6 enc Try.prog Try.f13 Rows.valueSeenUptoRow.domain false) (((Rows.OpenSpec.upto Rows.valueSeenSpec).at F).post enc Try.prog Try.f13 false true false false) := by
  refine returnsInHanded_of_cond_sized (C := Try.checked) (s := Rows.OpenSpec.upto Rows.valueSeenSpec) (k := Rows.uptoSmall) rfl own started (by kernel_rfl) Try.func13
    (OpenSpec.witness (enc := enc) (C := Try.checked) (s := Rows.OpenSpec.upto Rows.valueSeenSpec) (k := Rows.uptoSmall) rfl false ⟨#[], #[.agg #[.int .i64 0, .int .i64 0, .string ⟨#[]⟩, .slice none 0 0], .agg #[.int .i64 0, .int .i64 0, .string ⟨#[]⟩, .slice none 0 0]], []⟩ 8 (by kernel_rfl) (by kernel_rfl) (by kernel_rfl)
      (x := ([.agg [.lit (.int .i64 0), .lit (.int .i64 0), .lit (.string []), .nil], .agg [.lit (.int .i64 0), .lit (.int .i64 0), .lit (.string []), .nil]], [], [])) (by kernel_rfl) rfl (by kernel_rfl)) ?_
  intro W base args ds gs before hval0 hW _ hk0 hsz0 _
  have hsz : (DataW.weightsEach Try.prog (Try.f13.params.toList ++ (Rows.OpenSpec.upto Rows.valueSeenSpec).bare.plain.varTypes Try.prog) (ds ++ gs)).all (· ≤ reachBytes) = true := hsz0
  clear hsz0
  have hval : ∀ (j : Nat) t v, Try.f13.params[j]? = some t → args[j]? = some v → Value.okWide Try.prog W .any base t v := hval0
  have hW' := hW
  obtain ⟨p, q, hA0, hV, rfl, hfz, hnd⟩ := hW
  have hA : DataW.TrodAll enc Try.prog W 0 (fun _ => true) true Try.f13.params.toList args.toList ds p := hA0
  rw [Try.params13] at hA hval hsz
  obtain ⟨v0, vs0, d0, ds0, p0, q0, hargs, rfl, rfl, h0, r0⟩ := trodAll_cons hA
  obtain ⟨v1, vs1, d1, ds1, p1, q1, rfl, rfl, rfl, h1, r1⟩ := trodAll_cons r0
  obtain ⟨rfl, rfl, rfl⟩ := trodAll_nil r1
  obtain rfl : args = #[v0, v1] := by cases args; simp_all
  obtain ⟨rfl, rfl⟩ := trodVars_none hV
  have hbk : Rows.uptoBulkAll [d0, d1] ≤ 1048576 := of_decide_eq_true hk0
  simp only [Rows.uptoBulkAll] at hbk
  have hb0 : Rows.uptoBulk d0 ≤ 1048576 := by omega
  have hb1 : Rows.uptoBulk d1 ≤ 1048576 := by omega
  clear hk0 hbk
  have k0 := h0
  have lt0 : ∀ x ∈ p0, x.block < W.heap.size := by obtain ⟨m, hm⟩ := k0; exact DataW.trod_lt m _ _ _ hm
  have hz0 : ∀ n ∈ DataW.weights Try.prog 53 d0, n ≤ reachBytes := fun n hn => by
    have := List.all_eq_true.1 hsz _ (DataW.weights_mem_each (j := 0) rfl rfl n hn)
    simpa using this
  obtain ⟨a0, w0⟩ := open_valueU (hval 0 53 v0 rfl rfl) h0 hz0 hb0
  have k1 := h1
  have lt1 : ∀ x ∈ p1, x.block < W.heap.size := by obtain ⟨m, hm⟩ := k1; exact DataW.trod_lt m _ _ _ hm
  have hz1 : ∀ n ∈ DataW.weights Try.prog 53 d1, n ≤ reachBytes := fun n hn => by
    have := List.all_eq_true.1 hsz _ (DataW.weights_mem_each (j := 1) rfl rfl n hn)
    simpa using this
  obtain ⟨a1, w1⟩ := open_valueU (hval 1 53 v1 rfl rfl) h1 hz1 hb1
  clear hA0 hval0
  simp only [List.append_nil] at hW'
  refine (walk v0 a0 v1 a1 W w0 w1).mono fun e W' ⟨he, bel⟩ => ?_
  subst he
  exact ⟨_, rfl, _, _, _, [], _, [], hW', trodAll_mk1 (shut_bool Try.underlying4 _), (trodAll_cons_mk (Below.trod laidOut (by kernel_rfl) (of_decide_eq_true (by kernel_rfl)) k0 bel lt0) (trodAll_cons_mk (Below.trod laidOut (by kernel_rfl) (of_decide_eq_true (by kernel_rfl)) k1 bel lt1) trodAll_mk0)), rfl, Below.frame bel _, fun h => by cases h⟩

theorem over : Rows.valueSeenUptoRow.holds Try.pinned (Rows.OpenSpec.upto Rows.valueSeenSpec) :=
  OpenClaim.holds_of_cond 13 Try.f13 rfl rfl rfl rfl rfl rfl rfl ⟨rfl, rfl, rfl, rfl, rfl⟩ rfl rfl rfl rfl rfl (by kernel_rfl) Try.func13 (by kernel_rfl)
    (of_decide_eq_true (by kernel_rfl)) (by unfold Func.isWrapper; rw [if_neg (of_decide_eq_false (by kernel_rfl))]; exact ⟨rfl, rfl⟩)
    (fun os started H enc _ F => lifted os started H enc F)

/-- THE STATEMENT. -/
theorem proved : Rows.ValueSeenUptoSaid := over
#print axioms proved

end Go.Proofs.Ytffjfkmnlfndkaa.valueSeen
