/-
  Package panics: drop, left, passed. Condition: what is told, and the numbers, stay small.
-/
import Derived.Test.YtiicdknmoakocaaPanR
import Derived.Test.YtiicdknmoakocaaRegionL
namespace Go.Proofs.Ytiicdknmoakocaa
open Go.RowKit
set_option linter.unusedVariables false
set_option linter.unusedSimpArgs false

def lenV_ (v : Value) : Nat := match v with | .slice _ n _ => n | _ => 0
def pnLen (pb : Nat) (w : World) : Nat := match w.cell? ⟨pb, 1, none⟩ with | some v => lenV_ v | none => 0
theorem pl_pn {w : World} {base pb : Nat} {S : PlM} (h : Player w base pb S) : pnLen pb w = S.pn.length := by
  obtain ⟨fv, pv, tv, hp⟩ := h
  obtain ⟨A, c, rfl, _⟩ := hp.pn.len
  unfold pnLen
  rw [hp.c1]; rfl
theorem Player.drewN {w : World} {base pb : Nat} {S : PlM} (h : Player w base pb S) (q : Nat) : Player (w.drewN q) base pb S := h.kp ((Kp.refl _).drewN q)
/-- The last panic goes: the row is cut. -/
theorem Pl.popPn {w : World} {base pb : Nat} {fv tv : Value} {A : Option Addr} {n c : Nat} {S : PlM} {q : PanicM} {s : List PanicM} (h : Pl w base pb fv (.slice A n c) tv S) (hq : S.pn = q :: s) : Pl (w.setCell ⟨pb, 1, none⟩ (.slice A s.length c)) base pb fv (.slice A s.length c) tv { S with pn := s } :=
  h.panics_ (Touch.refl _ _) (PnRow.pop (by have := h.pn; rw [hq] at this; exact this))
set_option maxRecDepth 20000 in
set_option maxHeartbeats 1000000 in
theorem drop_any (w : World) (base pb : Nat) (S : PlM) {fv pv tv : Value} (hp : Pl w base pb fv pv tv S) (hne : S.pn ≠ []) (hpl : S.pn.length ≤ 1000000000) : Calls Try.prog 109 #[.pointer (some ⟨pb, 0, none⟩)] w fun e' w' => e' = .returned (.tuple #[]) ∧ (∃ pv2, Pl w' base pb fv pv2 tv { S with pn := dropM S.pn }) ∧ Below base w w' ∧ Touch 82 w w' := by
  obtain ⟨q, s, hq⟩ : ∃ q s, S.pn = q :: s := by
    cases hq : S.pn with
    | nil => exact absurd hq hne
    | cons q s => exact ⟨q, s, rfl⟩
  obtain ⟨A, c, rfl, hc⟩ := hp.pn.len
  have hge := hp.ge
  have hln : S.pn.length = s.length + 1 := by rw [hq]; rfl
  rw [hln] at hp hc hpl
  have HP := hid hp; have HQ := hid hq
  have hsl : s.length ≤ 1000000000 := by omega
  have HD := hid (show dropM S.pn = s.dropWhile (·.abt) by unfold dropM; rw [hq]; rfl)
  clear hp hq hne hln
  go_enter Try.func109, Try.ntmps109
  go_wp2
  refine wp_region_last 17 [[], [], [1], [2], [3], [4], [], [6], [7], [8], [9], [10], [11], [5, 12], [0], [14], [15], [13, 16]] (fun u => Kp w u)
    [fun (y : Value) (u : World) => y = (.pointer (some ⟨pb, 0, none⟩) : Value),
     fun (y : Value) (u : World) => y = (.pointer (some ⟨pb, 0, none⟩) : Value),
     fun (y : Value) (u : World) => y = (.pointer (some ⟨pb, 0, none⟩) : Value),
     fun (y : Value) (u : World) => y = (.pointer (some ⟨pb, 0, none⟩) : Value),
     fun (y : Value) (u : World) => y = (.pointer (some ⟨pb, 1, none⟩) : Value),
     fun (y : Value) (u : World) => y = (.slice A (s.length + 1) c : Value),
     fun (y : Value) (u : World) => y = (.pointer (some ⟨pb, 0, none⟩) : Value),
     fun (y : Value) (u : World) => y = (.pointer (some ⟨pb, 0, none⟩) : Value),
     fun (y : Value) (u : World) => y = (.pointer (some ⟨pb, 0, none⟩) : Value),
     fun (y : Value) (u : World) => y = (.pointer (some ⟨pb, 1, none⟩) : Value),
     fun (y : Value) (u : World) => y = (.slice A (s.length + 1) c : Value),
     fun (y : Value) (u : World) => y = (.int .i64 ((s.length : Int) + 1) : Value),
     fun (y : Value) (u : World) => y = (.int .i64 (s.length : Int) : Value),
     fun (y : Value) (u : World) => y = (.slice A s.length c : Value),
     fun (y : Value) (u : World) => y = (.pointer (some ⟨pb, 0, none⟩) : Value),
     fun (y : Value) (u : World) => y = (.pointer (some ⟨pb, 0, none⟩) : Value),
     fun (y : Value) (u : World) => y = (.pointer (some ⟨pb, 1, none⟩) : Value)]
    (by kernel_rfl) (by kernel_rfl) (by kernel_rfl) (by kernel_rfl) (by kernel_rfl) (by kernel_rfl) ((Kp.refl _).drew) (fun _ _ hk h => h.trans hk) ⟨fun _ _ _ _ h => h, fun _ _ _ _ h => h, fun _ _ _ _ h => h, fun _ _ _ _ h => h, fun _ _ _ _ h => h, fun _ _ _ _ h => h, fun _ _ _ _ h => h, fun _ _ _ _ h => h, fun _ _ _ _ h => h, fun _ _ _ _ h => h, fun _ _ _ _ h => h, fun _ _ _ _ h => h, fun _ _ _ _ h => h, fun _ _ _ _ h => h, fun _ _ _ _ h => h, fun _ _ _ _ h => h, fun _ _ _ _ h => h, trivial⟩ ⟨?sb0, ?sb1, ?sb2, ?sb3, ?sb4, ?sb5, ?sb6, ?sb7, ?sb8, ?sb9, ?sb10, ?sb11, ?sb12, ?sb13, ?sb14, ?sb15, ?sb16, trivial⟩ ⟨?hEb, trivial⟩
  case sb0 =>
    intro x u hg hd K hK
    clear hd
    refine ⟨?_⟩
    simp only [putsFrom, Act.put, List.setIfInBounds_toArray, List.set_cons_zero, List.set_cons_succ, Nat.reduceAdd] at hK ⊢
    go_simp
    exact hK.out _ _ (Kp.refl _) rfl
  case sb1 =>
    intro x u hg hd K hK
    clear hd
    refine ⟨?_⟩
    simp only [putsFrom, Act.put, List.setIfInBounds_toArray, List.set_cons_zero, List.set_cons_succ, Nat.reduceAdd] at hK ⊢
    go_simp
    exact hK.out _ _ (Kp.refl _) rfl
  case sb2 =>
    intro x u hg hd K hK
    have d1 : (x 1) = .pointer (some ⟨pb, 0, none⟩) := And.left hd
    clear hd
    refine ⟨?_⟩
    simp only [putsFrom, Act.put, List.setIfInBounds_toArray, List.set_cons_zero, List.set_cons_succ, Nat.reduceAdd, d1] at hK ⊢
    go_simp
    exact hK.out _ _ (Kp.refl _) rfl
  case sb3 =>
    intro x u hg hd K hK
    have d2 : (x 2) = .pointer (some ⟨pb, 0, none⟩) := And.left hd
    clear hd
    refine ⟨?_⟩
    simp only [putsFrom, Act.put, List.setIfInBounds_toArray, List.set_cons_zero, List.set_cons_succ, Nat.reduceAdd, d2] at hK ⊢
    go_simp
    exact hK.out _ _ (Kp.refl _) rfl
  case sb4 =>
    intro x u hg hd K hK
    have d3 : (x 3) = .pointer (some ⟨pb, 0, none⟩) := And.left hd
    clear hd
    refine ⟨?_⟩
    simp only [putsFrom, Act.put, List.setIfInBounds_toArray, List.set_cons_zero, List.set_cons_succ, Nat.reduceAdd, d3] at hK ⊢
    go_simp
    exact hK.out _ _ (Kp.refl _) rfl
  case sb5 =>
    intro x u hg hd K hK
    have d4 : (x 4) = .pointer (some ⟨pb, 1, none⟩) := And.left hd
    clear hd
    have z := (HP.out.kp hg).c1
    refine ⟨?_⟩
    simp only [putsFrom, Act.put, List.setIfInBounds_toArray, List.set_cons_zero, List.set_cons_succ, Nat.reduceAdd, d4] at hK ⊢
    go_simp
    exact hK.out _ _ (Kp.refl _) rfl
  case sb6 =>
    intro x u hg hd K hK
    clear hd
    refine ⟨?_⟩
    simp only [putsFrom, Act.put, List.setIfInBounds_toArray, List.set_cons_zero, List.set_cons_succ, Nat.reduceAdd] at hK ⊢
    go_simp
    exact hK.out _ _ (Kp.refl _) rfl
  case sb7 =>
    intro x u hg hd K hK
    have d6 : (x 6) = .pointer (some ⟨pb, 0, none⟩) := And.left hd
    clear hd
    refine ⟨?_⟩
    simp only [putsFrom, Act.put, List.setIfInBounds_toArray, List.set_cons_zero, List.set_cons_succ, Nat.reduceAdd, d6] at hK ⊢
    go_simp
    exact hK.out _ _ (Kp.refl _) rfl
  case sb8 =>
    intro x u hg hd K hK
    have d7 : (x 7) = .pointer (some ⟨pb, 0, none⟩) := And.left hd
    clear hd
    refine ⟨?_⟩
    simp only [putsFrom, Act.put, List.setIfInBounds_toArray, List.set_cons_zero, List.set_cons_succ, Nat.reduceAdd, d7] at hK ⊢
    go_simp
    exact hK.out _ _ (Kp.refl _) rfl
  case sb9 =>
    intro x u hg hd K hK
    have d8 : (x 8) = .pointer (some ⟨pb, 0, none⟩) := And.left hd
    clear hd
    refine ⟨?_⟩
    simp only [putsFrom, Act.put, List.setIfInBounds_toArray, List.set_cons_zero, List.set_cons_succ, Nat.reduceAdd, d8] at hK ⊢
    go_simp
    exact hK.out _ _ (Kp.refl _) rfl
  case sb10 =>
    intro x u hg hd K hK
    have d9 : (x 9) = .pointer (some ⟨pb, 1, none⟩) := And.left hd
    clear hd
    have z := (HP.out.kp hg).c1
    refine ⟨?_⟩
    simp only [putsFrom, Act.put, List.setIfInBounds_toArray, List.set_cons_zero, List.set_cons_succ, Nat.reduceAdd, d9] at hK ⊢
    go_simp
    exact hK.out _ _ (Kp.refl _) rfl
  case sb11 =>
    intro x u hg hd K hK
    have d10 : (x 10) = .slice A (s.length + 1) c := And.left hd
    clear hd
    refine ⟨?_⟩
    simp only [putsFrom, Act.put, List.setIfInBounds_toArray, List.set_cons_zero, List.set_cons_succ, Nat.reduceAdd, d10] at hK ⊢
    go_simp
    exact hK.out _ _ (Kp.refl _) rfl
  case sb12 =>
    intro x u hg hd K hK
    have d11 : (x 11) = .int .i64 ((s.length : Int) + 1) := And.left hd
    clear hd
    have w1 : IntKind.i64.wrap ((s.length : Int) + 1 - 1) = (s.length : Int) := by rw [IntWalk.i64_in _ (by omega)]; omega
    have w2 : IntKind.i64.wrap (s.length : Int) = (s.length : Int) := IntWalk.i64_in _ (by omega)
    refine ⟨?_⟩
    simp only [putsFrom, Act.put, List.setIfInBounds_toArray, List.set_cons_zero, List.set_cons_succ, Nat.reduceAdd, d11] at hK ⊢
    go_simp
    exact hK.out _ _ (Kp.refl _) rfl
  case sb13 =>
    intro x u hg hd K hK
    have d5 : (x 5) = .slice A (s.length + 1) c := And.left hd
    have d12 : (x 12) = .int .i64 (s.length : Int) := And.left (And.right hd)
    clear hd
    have w1 : s.length ≤ c := by omega
    have w2 : (s.length : Int) ≤ (c : Int) := by omega
    refine ⟨?_⟩
    simp only [putsFrom, Act.put, List.setIfInBounds_toArray, List.set_cons_zero, List.set_cons_succ, Nat.reduceAdd, d5, d12] at hK ⊢
    go_simp
    exact hK.out _ _ (Kp.refl _) rfl
  case sb14 =>
    intro x u hg hd K hK
    have d0 : (x 0) = .pointer (some ⟨pb, 0, none⟩) := And.left hd
    clear hd
    refine ⟨?_⟩
    simp only [putsFrom, Act.put, List.setIfInBounds_toArray, List.set_cons_zero, List.set_cons_succ, Nat.reduceAdd, d0] at hK ⊢
    go_simp
    exact hK.out _ _ (Kp.refl _) rfl
  case sb15 =>
    intro x u hg hd K hK
    have d14 : (x 14) = .pointer (some ⟨pb, 0, none⟩) := And.left hd
    clear hd
    refine ⟨?_⟩
    simp only [putsFrom, Act.put, List.setIfInBounds_toArray, List.set_cons_zero, List.set_cons_succ, Nat.reduceAdd, d14] at hK ⊢
    go_simp
    exact hK.out _ _ (Kp.refl _) rfl
  case sb16 =>
    intro x u hg hd K hK
    have d15 : (x 15) = .pointer (some ⟨pb, 0, none⟩) := And.left hd
    clear hd
    refine ⟨?_⟩
    simp only [putsFrom, Act.put, List.setIfInBounds_toArray, List.set_cons_zero, List.set_cons_succ, Nat.reduceAdd, d15] at hK ⊢
    go_simp
    exact hK.out _ _ (Kp.refl _) rfl
  intro x u hg he K hK
  have d0 : (x 0) = .pointer (some ⟨pb, 0, none⟩) := And.left he
  have d1 : (x 1) = .pointer (some ⟨pb, 0, none⟩) := And.left (And.right he)
  have d2 : (x 2) = .pointer (some ⟨pb, 0, none⟩) := And.left (And.right (And.right he))
  have d3 : (x 3) = .pointer (some ⟨pb, 0, none⟩) := And.left (And.right (And.right (And.right he)))
  have d4 : (x 4) = .pointer (some ⟨pb, 1, none⟩) := And.left (And.right (And.right (And.right (And.right he))))
  have d5 : (x 5) = .slice A (s.length + 1) c := And.left (And.right (And.right (And.right (And.right (And.right he)))))
  have d6 : (x 6) = .pointer (some ⟨pb, 0, none⟩) := And.left (And.right (And.right (And.right (And.right (And.right (And.right he))))))
  have d7 : (x 7) = .pointer (some ⟨pb, 0, none⟩) := And.left (And.right (And.right (And.right (And.right (And.right (And.right (And.right he)))))))
  have d8 : (x 8) = .pointer (some ⟨pb, 0, none⟩) := And.left (And.right (And.right (And.right (And.right (And.right (And.right (And.right (And.right he))))))))
  have d9 : (x 9) = .pointer (some ⟨pb, 1, none⟩) := And.left (And.right (And.right (And.right (And.right (And.right (And.right (And.right (And.right (And.right he)))))))))
  have d10 : (x 10) = .slice A (s.length + 1) c := And.left (And.right (And.right (And.right (And.right (And.right (And.right (And.right (And.right (And.right (And.right he))))))))))
  have d11 : (x 11) = .int .i64 ((s.length : Int) + 1) := And.left (And.right (And.right (And.right (And.right (And.right (And.right (And.right (And.right (And.right (And.right (And.right he)))))))))))
  have d12 : (x 12) = .int .i64 (s.length : Int) := And.left (And.right (And.right (And.right (And.right (And.right (And.right (And.right (And.right (And.right (And.right (And.right (And.right he))))))))))))
  have d13 : (x 13) = .slice A s.length c := And.left (And.right (And.right (And.right (And.right (And.right (And.right (And.right (And.right (And.right (And.right (And.right (And.right (And.right he)))))))))))))
  have d14 : (x 14) = .pointer (some ⟨pb, 0, none⟩) := And.left (And.right (And.right (And.right (And.right (And.right (And.right (And.right (And.right (And.right (And.right (And.right (And.right (And.right (And.right he))))))))))))))
  have d15 : (x 15) = .pointer (some ⟨pb, 0, none⟩) := And.left (And.right (And.right (And.right (And.right (And.right (And.right (And.right (And.right (And.right (And.right (And.right (And.right (And.right (And.right (And.right he)))))))))))))))
  have d16 : (x 16) = .pointer (some ⟨pb, 1, none⟩) := And.left (And.right (And.right (And.right (And.right (And.right (And.right (And.right (And.right (And.right (And.right (And.right (And.right (And.right (And.right (And.right (And.right he))))))))))))))))
  clear he
  have hpu := HP.out.kp hg
  have z := hpu.c1
  have zf := hpu.fz 1
  have HG := hid hg
  have HPU := hid (hpu.popPn HQ.out)
  have HTU := hid ((Touch.of_kp hg).trans (hpu.self 1 (.slice A s.length c)))
  clear hpu
  refine ⟨?_⟩
  simp only [putsFrom, Act.put, List.setIfInBounds_toArray, List.set_cons_zero, List.set_cons_succ, Nat.reduceAdd, d0, d1, d2, d3, d4, d5, d6, d7, d8, d9, d10, d11, d12, d13, d14, d15, d16] at hK ⊢
  go_simp
  refine hK.out undef _ ⟨?_⟩
  clear hK
  clear d0 d1 d2 d3 d4 d5 d6 d7 d8 d9 d10 d11 d12 d13 d14 d15 d16
  clear z zf
  go_wp2
  go_loopw [19] (fun _ wr => ∃ P pv2, Pl wr base pb fv pv2 tv { S with pn := P } ∧ P.dropWhile (·.abt) = s.dropWhile (·.abt) ∧ P.length ≤ s.length ∧ Below base w wr ∧ Touch 82 w wr) (fun _ wr => pnLen pb wr)
  case atStart => exact ⟨s, _, HPU.out, rfl, Nat.le_refl _, (Below.mono HG.out (Nat.le_trans hge (Nat.le_of_lt HP.out.lt))).setCell hge _, HTU.out⟩
  case round =>
    obtain ⟨P, pv2, hpr, hdw, hpl2, hbw, htw⟩ := hrel
    have HPP := hid hpr; have HDW := hid hdw; have HBW := hid hbw; have HTW := hid htw
    clear htw
    cases P with
    | nil =>
      obtain ⟨A2, c2, rfl, _⟩ := hpr.pn.len
      have c1 := hpr.c1
      clear hpr hdw hbw
      go_wp2
      go_end0
      exact ⟨rfl, ⟨_, by rw [HD.out, ← HDW.out]; exact HPP.out⟩, HBW.out, HTW.out⟩
    | cons q2 r =>
      obtain ⟨gp, cp, Ap', cp', rfl, hcp, hgp, hgpl, _, _, _, _, _, _, z6, _, hqok, _⟩ := PnRow.at_ hpr.pn (i := r.length) (q := q2) (by simp)
      have c1 := hpr.c1
      simp only [List.length_cons] at c1 hpl2 hcp
      have HPR := hid hpr
      simp only [List.length_cons] at HPR
      have hgepb := HPR.out.lt
      have hrl : r.length ≤ 1000000000 := by omega
      have Z6 := hid z6
      clear hpr hdw hbw hqok z6
      have HML := hid (pl_pn ⟨_, _, _, HPP.out⟩)
      cases hab : q2.abt with
      | false =>
        have HAB := hid hab
        go_wp2_with fail
        have hc := last_at wr pb gp r.length cp c1 hrl
        refine hc.mono ?_; clear hc
        rintro e' w1 ⟨rfl, n1, rfl⟩
        have z6 := Z6.out
        rw [HAB.out] at z6
        clear hab
        go_wp2
        go_end0
        exact ⟨rfl, ⟨_, by rw [HD.out, ← HDW.out, List.dropWhile_cons, if_neg (by simp [HAB.out])]; exact HPP.out.kp ((Kp.refl _).drewN n1)⟩, below_drewN HBW.out n1, HTW.out.trans (Touch.of_kp ((Kp.refl _).drewN n1))⟩
      | true =>
        have HAB := hid hab
        go_wp2_with fail
        have hc := last_at wr pb gp r.length cp c1 hrl
        refine hc.mono ?_; clear hc
        rintro e' w1 ⟨rfl, n1, rfl⟩
        have z6 := Z6.out
        rw [HAB.out] at z6
        clear hab
        go_wp2
        clear z6 c1
        refine wp_region_last 17 [[], [], [1], [2], [3], [4], [], [6], [7], [8], [9], [10], [11], [5, 12], [0], [14], [15], [13, 16]] (fun u => Kp wr u)
          [fun (y : Value) (u : World) => y = (.pointer (some ⟨pb, 0, none⟩) : Value),
           fun (y : Value) (u : World) => y = (.pointer (some ⟨pb, 0, none⟩) : Value),
           fun (y : Value) (u : World) => y = (.pointer (some ⟨pb, 0, none⟩) : Value),
           fun (y : Value) (u : World) => y = (.pointer (some ⟨pb, 0, none⟩) : Value),
           fun (y : Value) (u : World) => y = (.pointer (some ⟨pb, 1, none⟩) : Value),
           fun (y : Value) (u : World) => y = (.slice (some ⟨gp, 0, none⟩) (r.length + 1) cp : Value),
           fun (y : Value) (u : World) => y = (.pointer (some ⟨pb, 0, none⟩) : Value),
           fun (y : Value) (u : World) => y = (.pointer (some ⟨pb, 0, none⟩) : Value),
           fun (y : Value) (u : World) => y = (.pointer (some ⟨pb, 0, none⟩) : Value),
           fun (y : Value) (u : World) => y = (.pointer (some ⟨pb, 1, none⟩) : Value),
           fun (y : Value) (u : World) => y = (.slice (some ⟨gp, 0, none⟩) (r.length + 1) cp : Value),
           fun (y : Value) (u : World) => y = (.int .i64 ((r.length : Int) + 1) : Value),
           fun (y : Value) (u : World) => y = (.int .i64 (r.length : Int) : Value),
           fun (y : Value) (u : World) => y = (.slice (some ⟨gp, 0, none⟩) r.length cp : Value),
           fun (y : Value) (u : World) => y = (.pointer (some ⟨pb, 0, none⟩) : Value),
           fun (y : Value) (u : World) => y = (.pointer (some ⟨pb, 0, none⟩) : Value),
           fun (y : Value) (u : World) => y = (.pointer (some ⟨pb, 1, none⟩) : Value)]
          (by kernel_rfl) (by kernel_rfl) (by kernel_rfl) (by kernel_rfl) (by kernel_rfl) (by kernel_rfl) (((Kp.refl _).drewN n1).drew) (fun _ _ hk h => h.trans hk) ⟨fun _ _ _ _ h => h, fun _ _ _ _ h => h, fun _ _ _ _ h => h, fun _ _ _ _ h => h, fun _ _ _ _ h => h, fun _ _ _ _ h => h, fun _ _ _ _ h => h, fun _ _ _ _ h => h, fun _ _ _ _ h => h, fun _ _ _ _ h => h, fun _ _ _ _ h => h, fun _ _ _ _ h => h, fun _ _ _ _ h => h, fun _ _ _ _ h => h, fun _ _ _ _ h => h, fun _ _ _ _ h => h, fun _ _ _ _ h => h, trivial⟩ ⟨?sc0, ?sc1, ?sc2, ?sc3, ?sc4, ?sc5, ?sc6, ?sc7, ?sc8, ?sc9, ?sc10, ?sc11, ?sc12, ?sc13, ?sc14, ?sc15, ?sc16, trivial⟩ ⟨?hEc, trivial⟩
        case sc0 =>
          intro x u hg hd K hK
          clear hd
          refine ⟨?_⟩
          simp only [putsFrom, Act.put, List.setIfInBounds_toArray, List.set_cons_zero, List.set_cons_succ, Nat.reduceAdd] at hK ⊢
          go_simp
          exact hK.out _ _ (Kp.refl _) rfl
        case sc1 =>
          intro x u hg hd K hK
          clear hd
          refine ⟨?_⟩
          simp only [putsFrom, Act.put, List.setIfInBounds_toArray, List.set_cons_zero, List.set_cons_succ, Nat.reduceAdd] at hK ⊢
          go_simp
          exact hK.out _ _ (Kp.refl _) rfl
        case sc2 =>
          intro x u hg hd K hK
          have d1 : (x 1) = .pointer (some ⟨pb, 0, none⟩) := And.left hd
          clear hd
          refine ⟨?_⟩
          simp only [putsFrom, Act.put, List.setIfInBounds_toArray, List.set_cons_zero, List.set_cons_succ, Nat.reduceAdd, d1] at hK ⊢
          go_simp
          exact hK.out _ _ (Kp.refl _) rfl
        case sc3 =>
          intro x u hg hd K hK
          have d2 : (x 2) = .pointer (some ⟨pb, 0, none⟩) := And.left hd
          clear hd
          refine ⟨?_⟩
          simp only [putsFrom, Act.put, List.setIfInBounds_toArray, List.set_cons_zero, List.set_cons_succ, Nat.reduceAdd, d2] at hK ⊢
          go_simp
          exact hK.out _ _ (Kp.refl _) rfl
        case sc4 =>
          intro x u hg hd K hK
          have d3 : (x 3) = .pointer (some ⟨pb, 0, none⟩) := And.left hd
          clear hd
          refine ⟨?_⟩
          simp only [putsFrom, Act.put, List.setIfInBounds_toArray, List.set_cons_zero, List.set_cons_succ, Nat.reduceAdd, d3] at hK ⊢
          go_simp
          exact hK.out _ _ (Kp.refl _) rfl
        case sc5 =>
          intro x u hg hd K hK
          have d4 : (x 4) = .pointer (some ⟨pb, 1, none⟩) := And.left hd
          clear hd
          have z := (HPR.out.kp hg).c1
          refine ⟨?_⟩
          simp only [putsFrom, Act.put, List.setIfInBounds_toArray, List.set_cons_zero, List.set_cons_succ, Nat.reduceAdd, d4] at hK ⊢
          go_simp
          exact hK.out _ _ (Kp.refl _) rfl
        case sc6 =>
          intro x u hg hd K hK
          clear hd
          refine ⟨?_⟩
          simp only [putsFrom, Act.put, List.setIfInBounds_toArray, List.set_cons_zero, List.set_cons_succ, Nat.reduceAdd] at hK ⊢
          go_simp
          exact hK.out _ _ (Kp.refl _) rfl
        case sc7 =>
          intro x u hg hd K hK
          have d6 : (x 6) = .pointer (some ⟨pb, 0, none⟩) := And.left hd
          clear hd
          refine ⟨?_⟩
          simp only [putsFrom, Act.put, List.setIfInBounds_toArray, List.set_cons_zero, List.set_cons_succ, Nat.reduceAdd, d6] at hK ⊢
          go_simp
          exact hK.out _ _ (Kp.refl _) rfl
        case sc8 =>
          intro x u hg hd K hK
          have d7 : (x 7) = .pointer (some ⟨pb, 0, none⟩) := And.left hd
          clear hd
          refine ⟨?_⟩
          simp only [putsFrom, Act.put, List.setIfInBounds_toArray, List.set_cons_zero, List.set_cons_succ, Nat.reduceAdd, d7] at hK ⊢
          go_simp
          exact hK.out _ _ (Kp.refl _) rfl
        case sc9 =>
          intro x u hg hd K hK
          have d8 : (x 8) = .pointer (some ⟨pb, 0, none⟩) := And.left hd
          clear hd
          refine ⟨?_⟩
          simp only [putsFrom, Act.put, List.setIfInBounds_toArray, List.set_cons_zero, List.set_cons_succ, Nat.reduceAdd, d8] at hK ⊢
          go_simp
          exact hK.out _ _ (Kp.refl _) rfl
        case sc10 =>
          intro x u hg hd K hK
          have d9 : (x 9) = .pointer (some ⟨pb, 1, none⟩) := And.left hd
          clear hd
          have z := (HPR.out.kp hg).c1
          refine ⟨?_⟩
          simp only [putsFrom, Act.put, List.setIfInBounds_toArray, List.set_cons_zero, List.set_cons_succ, Nat.reduceAdd, d9] at hK ⊢
          go_simp
          exact hK.out _ _ (Kp.refl _) rfl
        case sc11 =>
          intro x u hg hd K hK
          have d10 : (x 10) = .slice (some ⟨gp, 0, none⟩) (r.length + 1) cp := And.left hd
          clear hd
          refine ⟨?_⟩
          simp only [putsFrom, Act.put, List.setIfInBounds_toArray, List.set_cons_zero, List.set_cons_succ, Nat.reduceAdd, d10] at hK ⊢
          go_simp
          exact hK.out _ _ (Kp.refl _) rfl
        case sc12 =>
          intro x u hg hd K hK
          have d11 : (x 11) = .int .i64 ((r.length : Int) + 1) := And.left hd
          clear hd
          have w1 : IntKind.i64.wrap ((r.length : Int) + 1 - 1) = (r.length : Int) := by rw [IntWalk.i64_in _ (by omega)]; omega
          have w2 : IntKind.i64.wrap (r.length : Int) = (r.length : Int) := IntWalk.i64_in _ (by omega)
          refine ⟨?_⟩
          simp only [putsFrom, Act.put, List.setIfInBounds_toArray, List.set_cons_zero, List.set_cons_succ, Nat.reduceAdd, d11] at hK ⊢
          go_simp
          exact hK.out _ _ (Kp.refl _) rfl
        case sc13 =>
          intro x u hg hd K hK
          have d5 : (x 5) = .slice (some ⟨gp, 0, none⟩) (r.length + 1) cp := And.left hd
          have d12 : (x 12) = .int .i64 (r.length : Int) := And.left (And.right hd)
          clear hd
          have w1 : r.length ≤ cp := by omega
          have w2 : (r.length : Int) ≤ (cp : Int) := by omega
          refine ⟨?_⟩
          simp only [putsFrom, Act.put, List.setIfInBounds_toArray, List.set_cons_zero, List.set_cons_succ, Nat.reduceAdd, d5, d12] at hK ⊢
          go_simp
          exact hK.out _ _ (Kp.refl _) rfl
        case sc14 =>
          intro x u hg hd K hK
          have d0 : (x 0) = .pointer (some ⟨pb, 0, none⟩) := And.left hd
          clear hd
          refine ⟨?_⟩
          simp only [putsFrom, Act.put, List.setIfInBounds_toArray, List.set_cons_zero, List.set_cons_succ, Nat.reduceAdd, d0] at hK ⊢
          go_simp
          exact hK.out _ _ (Kp.refl _) rfl
        case sc15 =>
          intro x u hg hd K hK
          have d14 : (x 14) = .pointer (some ⟨pb, 0, none⟩) := And.left hd
          clear hd
          refine ⟨?_⟩
          simp only [putsFrom, Act.put, List.setIfInBounds_toArray, List.set_cons_zero, List.set_cons_succ, Nat.reduceAdd, d14] at hK ⊢
          go_simp
          exact hK.out _ _ (Kp.refl _) rfl
        case sc16 =>
          intro x u hg hd K hK
          have d15 : (x 15) = .pointer (some ⟨pb, 0, none⟩) := And.left hd
          clear hd
          refine ⟨?_⟩
          simp only [putsFrom, Act.put, List.setIfInBounds_toArray, List.set_cons_zero, List.set_cons_succ, Nat.reduceAdd, d15] at hK ⊢
          go_simp
          exact hK.out _ _ (Kp.refl _) rfl
        intro x u hg he K hK
        have d0 : (x 0) = .pointer (some ⟨pb, 0, none⟩) := And.left he
        have d1 : (x 1) = .pointer (some ⟨pb, 0, none⟩) := And.left (And.right he)
        have d2 : (x 2) = .pointer (some ⟨pb, 0, none⟩) := And.left (And.right (And.right he))
        have d3 : (x 3) = .pointer (some ⟨pb, 0, none⟩) := And.left (And.right (And.right (And.right he)))
        have d4 : (x 4) = .pointer (some ⟨pb, 1, none⟩) := And.left (And.right (And.right (And.right (And.right he))))
        have d5 : (x 5) = .slice (some ⟨gp, 0, none⟩) (r.length + 1) cp := And.left (And.right (And.right (And.right (And.right (And.right he)))))
        have d6 : (x 6) = .pointer (some ⟨pb, 0, none⟩) := And.left (And.right (And.right (And.right (And.right (And.right (And.right he))))))
        have d7 : (x 7) = .pointer (some ⟨pb, 0, none⟩) := And.left (And.right (And.right (And.right (And.right (And.right (And.right (And.right he)))))))
        have d8 : (x 8) = .pointer (some ⟨pb, 0, none⟩) := And.left (And.right (And.right (And.right (And.right (And.right (And.right (And.right (And.right he))))))))
        have d9 : (x 9) = .pointer (some ⟨pb, 1, none⟩) := And.left (And.right (And.right (And.right (And.right (And.right (And.right (And.right (And.right (And.right he)))))))))
        have d10 : (x 10) = .slice (some ⟨gp, 0, none⟩) (r.length + 1) cp := And.left (And.right (And.right (And.right (And.right (And.right (And.right (And.right (And.right (And.right (And.right he))))))))))
        have d11 : (x 11) = .int .i64 ((r.length : Int) + 1) := And.left (And.right (And.right (And.right (And.right (And.right (And.right (And.right (And.right (And.right (And.right (And.right he)))))))))))
        have d12 : (x 12) = .int .i64 (r.length : Int) := And.left (And.right (And.right (And.right (And.right (And.right (And.right (And.right (And.right (And.right (And.right (And.right (And.right he))))))))))))
        have d13 : (x 13) = .slice (some ⟨gp, 0, none⟩) r.length cp := And.left (And.right (And.right (And.right (And.right (And.right (And.right (And.right (And.right (And.right (And.right (And.right (And.right (And.right he)))))))))))))
        have d14 : (x 14) = .pointer (some ⟨pb, 0, none⟩) := And.left (And.right (And.right (And.right (And.right (And.right (And.right (And.right (And.right (And.right (And.right (And.right (And.right (And.right (And.right he))))))))))))))
        have d15 : (x 15) = .pointer (some ⟨pb, 0, none⟩) := And.left (And.right (And.right (And.right (And.right (And.right (And.right (And.right (And.right (And.right (And.right (And.right (And.right (And.right (And.right (And.right he)))))))))))))))
        have d16 : (x 16) = .pointer (some ⟨pb, 1, none⟩) := And.left (And.right (And.right (And.right (And.right (And.right (And.right (And.right (And.right (And.right (And.right (And.right (And.right (And.right (And.right (And.right (And.right he))))))))))))))))
        clear he
        have hpu := HPR.out.kp hg
        have z := hpu.c1
        have zf := hpu.fz 1
        have HG := hid hg
        have HPU := hid (hpu.popPn (q := q2) (s := r) rfl)
        have HTU := hid ((Touch.of_kp hg).trans (hpu.self 1 (.slice (some ⟨gp, 0, none⟩) r.length cp)))
        clear hpu
        refine ⟨?_⟩
        simp only [putsFrom, Act.put, List.setIfInBounds_toArray, List.set_cons_zero, List.set_cons_succ, Nat.reduceAdd, d0, d1, d2, d3, d4, d5, d6, d7, d8, d9, d10, d11, d12, d13, d14, d15, d16] at hK ⊢
        go_simp
        refine hK.out undef _ ⟨?_⟩
        clear hK
        clear d0 d1 d2 d3 d4 d5 d6 d7 d8 d9 d10 d11 d12 d13 d14 d15 d16
        clear z zf
        go_wp2
        go_roundw
        case rel => exact ⟨r, _, HPU.out, by rw [← HDW.out, List.dropWhile_cons, if_pos HAB.out], by omega, (Below.trans HBW.out (Below.mono HG.out (Nat.le_trans hge (Nat.le_of_lt hgepb)))).setCell hge _, HTW.out.trans HTU.out⟩
        case measure =>
          rw [pl_pn ⟨_, _, _, HPU.out⟩, HML.out]
          simp
def frV (f : FrameM) (A : Option Addr) (n c : Nat) : Value := .agg #[.int .i64 f.id, .int .i64 f.mark, .int .i64 f.panic, .int .i64 f.phase, .slice A n c]
theorem Player.frLen {w : World} {base pb : Nat} {S : PlM} (h : Player w base pb S) : ∃ A c, w.cell? ⟨pb, 0, none⟩ = some (.slice A S.fr.length c) := by
  obtain ⟨fv, pv, tv, hp⟩ := h
  obtain ⟨A, c, rfl, _⟩ := hp.fr.len
  exact ⟨A, c, hp.c0⟩
theorem Player.ge {w : World} {base pb : Nat} {S : PlM} (h : Player w base pb S) : base ≤ pb ∧ pb < w.heap.size := by
  obtain ⟨fv, pv, tv, hp⟩ := h
  exact ⟨hp.ge, hp.lt⟩
set_option maxHeartbeats 1000000 in
theorem left_nil (w : World) (base pb : Nat) (S : PlM) (f : FrameM) (A : Option Addr) (n c : Nat) (h : Player w base pb S) (hf : okF f) (hn : S.fr = []) (hl : S.told.length ≤ 900000000) : Calls Try.prog 94 #[.pointer (some ⟨pb, 0, none⟩), frV f A n c] w fun e' w' => e' = .returned (.bool false) ∧ Player w' base pb ((S.tell ⟨3, f.id, 0, zV⟩).over 1 0) ∧ Below base w w' := by
  have H := hid h; have HF := hid hf; have HN := hid hn
  unfold frV
  clear h hf hn
  go_enter Try.func94, Try.ntmps94
  go_wp2_with fail
  have hk := hid ((Kp.refl w).alloc (.cells #[.int .i64 f.id, .int .i64 f.mark, .int .i64 f.panic, .int .i64 f.phase, .slice A n c] 44))
  have hc := tell_any _ base pb S ⟨3, f.id, 0, zV⟩ none 0 (H.out.kp hk.out) (okT_nums (ok_small (by omega) (by omega)) HF.out.1 ok0) (by omega)
  refine hc.mono ?_; clear hc
  rintro e' w2 ⟨rfl, hp2, hb2⟩
  have HP2 := hid hp2; have HB2 := hid (Below.trans (Below.mono hk.out (Nat.le_trans H.out.ge.1 (Nat.le_of_lt H.out.ge.2))) hb2)
  obtain ⟨A2, c2, c0⟩ := hp2.frLen
  rw [show (S.tell ⟨3, f.id, 0, zV⟩).fr.length = 0 by show S.fr.length = 0; rw [HN.out]; rfl] at c0
  clear hp2 hb2
  go_wp2_with fail
  have hc := over_any w2 base pb _ 1 0 HP2.out (ok_small (by omega) (by omega)) ok0 (show (S.told ++ [(⟨3, f.id, 0, zV⟩ : TellM)]).length ≤ 1000000000 by simp; omega)
  refine hc.mono ?_; clear hc
  rintro e' w3 ⟨rfl, hp3, hb3⟩
  have HP3 := hid hp3; have HB3 := hid hb3
  clear hp3 hb3
  go_wp2
  go_ret
  exact ⟨rfl, HP3.out, Below.trans HB2.out HB3.out⟩
set_option maxHeartbeats 1000000 in
theorem passed_nil (w : World) (base pb : Nat) (S : PlM) (f : FrameM) (A : Option Addr) (n c : Nat) (h : Player w base pb S) (hf : okF f) (hn : S.fr = []) (hl : S.told.length ≤ 900000000) : Calls Try.prog 95 #[.pointer (some ⟨pb, 0, none⟩), frV f A n c] w fun e' w' => e' = .returned (.bool false) ∧ Player w' base pb ((S.tell ⟨4, f.id, 0, zV⟩).over 2 2) ∧ Below base w w' := by
  have H := hid h; have HF := hid hf; have HN := hid hn
  unfold frV
  clear h hf hn
  go_enter Try.func95, Try.ntmps95
  go_wp2_with fail
  have hk := hid ((Kp.refl w).alloc (.cells #[.int .i64 f.id, .int .i64 f.mark, .int .i64 f.panic, .int .i64 f.phase, .slice A n c] 44))
  have hc := tell_any _ base pb S ⟨4, f.id, 0, zV⟩ none 0 (H.out.kp hk.out) (okT_nums (ok_small (by omega) (by omega)) HF.out.1 ok0) (by omega)
  refine hc.mono ?_; clear hc
  rintro e' w2 ⟨rfl, hp2, hb2⟩
  have HP2 := hid hp2; have HB2 := hid (Below.trans (Below.mono hk.out (Nat.le_trans H.out.ge.1 (Nat.le_of_lt H.out.ge.2))) hb2)
  obtain ⟨A2, c2, c0⟩ := hp2.frLen
  rw [show (S.tell ⟨4, f.id, 0, zV⟩).fr.length = 0 by show S.fr.length = 0; rw [HN.out]; rfl] at c0
  clear hp2 hb2
  go_wp2_with fail
  have hc := over_any w2 base pb _ 2 2 HP2.out (ok_small (by omega) (by omega)) (ok_small (by omega) (by omega)) (show (S.told ++ [(⟨4, f.id, 0, zV⟩ : TellM)]).length ≤ 1000000000 by simp; omega)
  refine hc.mono ?_; clear hc
  rintro e' w3 ⟨rfl, hp3, hb3⟩
  have HP3 := hid hp3; have HB3 := hid hb3
  clear hp3 hb3
  go_wp2
  go_ret
  exact ⟨rfl, HP3.out, Below.trans HB2.out HB3.out⟩
/-- The activation on top: where it lies, in the player. -/
theorem Player.top {w : World} {base pb : Nat} {S : PlM} {f : FrameM} {r : List FrameM} (h : Player w base pb S) (hf : S.fr = f :: r) : ∃ g c A cd, w.cell? ⟨pb, 0, none⟩ = some (.slice (some ⟨g, 0, none⟩) (r.length + 1) c) ∧ base ≤ g ∧ g < w.heap.size ∧
    w.cell? ⟨g, r.length * 5, none⟩ = some (.int .i64 f.id) ∧ w.cell? ⟨g, r.length * 5 + 1, none⟩ = some (.int .i64 f.mark) ∧ w.cell? ⟨g, r.length * 5 + 2, none⟩ = some (.int .i64 f.panic) ∧ w.cell? ⟨g, r.length * 5 + 3, none⟩ = some (.int .i64 f.phase) ∧ w.cell? ⟨g, r.length * 5 + 4, none⟩ = some (.slice A f.defers.length cd) ∧
    (∀ j, w.frozen? ⟨g, j, none⟩ = false) ∧ okF f ∧ (∀ ph, okI ph → Player (w.setCell ⟨g, r.length * 5 + 3, none⟩ (.int .i64 ph)) base pb { S with fr := { f with phase := ph } :: r }) ∧
    Player (w.setCell ⟨pb, 0, none⟩ (.slice (some ⟨g, 0, none⟩) r.length c)) base pb { S with fr := r } ∧ r.length + 1 ≤ c := by
  obtain ⟨fv, pv, tv, hp⟩ := h
  have hx := hp.fr
  rw [hf] at hx
  obtain ⟨g, c, d, rfl, hc, h1, h2, h3, h4, h5, h6, h7, h8, h9, h10, cs, h11⟩ := hx.top
  obtain ⟨Ad, cd, rfl⟩ := own_form h9
  refine ⟨g, c, Ad, cd, hp.c0, h1, h2, h3, h4, h5, h6, h7, h8, h10, fun ph hph => ⟨_, _, _, hp.inFr (rowTouch h11 _) (hx.phase hph)⟩, ⟨_, _, _, hp.frames_ (Touch.refl _ _) hx.pop⟩, hc⟩
theorem Player.last {w : World} {base pb : Nat} {S : PlM} {q : PanicM} {s : List PanicM} (h : Player w base pb S) (hq : S.pn = q :: s) : ∃ g c A c', w.cell? ⟨pb, 1, none⟩ = some (.slice (some ⟨g, 0, none⟩) (s.length + 1) c) ∧ base ≤ g ∧ g < w.heap.size ∧
    w.cell? ⟨g, s.length * 7, none⟩ = some (.int .i64 q.serial) ∧ w.cell? ⟨g, s.length * 7 + 1, none⟩ = some (.int .i64 q.val.k) ∧ w.cell? ⟨g, s.length * 7 + 2, none⟩ = some (.int .i64 q.val.n) ∧ w.cell? ⟨g, s.length * 7 + 3, none⟩ = some (.string q.val.s) ∧ w.cell? ⟨g, s.length * 7 + 4, none⟩ = some (.slice A 0 c') ∧ w.cell? ⟨g, s.length * 7 + 5, none⟩ = some (.bool q.rcd) ∧ w.cell? ⟨g, s.length * 7 + 6, none⟩ = some (.bool q.abt) ∧
    (∀ j, w.frozen? ⟨g, j, none⟩ = false) ∧ okP q ∧ Player (w.setCell ⟨g, s.length * 7 + 5, none⟩ (.bool true)) base pb { S with pn := { q with rcd := true } :: s } := by
  obtain ⟨fv, pv, tv, hp⟩ := h
  have hx := hp.pn
  rw [hq] at hx
  have hi : (q :: s).reverse[s.length]? = some q := by simp
  obtain ⟨g, c, A, c', rfl, hc, h1, h2, h3, h4, h5, h6, h7, h8, h9, h10, h11, cs, h12⟩ := hx.at_ hi
  refine ⟨g, c, A, c', hp.c1, h1, h2, h3, h4, h5, h6, h7, h8, h9, h10, h11, ⟨_, _, _, hp.inPn (rowTouch h12 _) ?_⟩⟩
  have h13 := hx.set hi (q' := { q with rcd := true }) 5 (by omega) (.bool true) (fun _ _ => rfl) (fun h => h)
  have e : (q :: s).reverse.set s.length { q with rcd := true } = ({ q with rcd := true } :: s).reverse := by
    rw [List.reverse_cons, List.reverse_cons, List.set_append_right _ _ (by simp)]; simp
  rw [e] at h13
  exact h13
/-- The box of an activation, in a world where rows of other types may have turned. -/
def FBox (w : World) (b : Nat) (f : FrameM) (d : Value) : Prop := w.heap[b]? = some (.cells #[.int .i64 f.id, .int .i64 f.mark, .int .i64 f.panic, .int .i64 f.phase, d] 44 (0, 0))
theorem FBox.two {w w' : World} {b : Nat} {f : FrameM} {d : Value} (h : FBox w b f d) (ht : Touch2 131 82 w w') : FBox w' b f d := ht.2 b _ h (fun _ _ e => by injection e with _ e _; exact absurd e (by decide)) (fun _ _ e => by injection e with _ e _; exact absurd e (by decide))
theorem FBox.one {w w' : World} {b : Nat} {f : FrameM} {d : Value} {T : TypeId} (h : FBox w b f d) (ht : Touch T w w') (n : 44 ≠ T) : FBox w' b f d := ht.2 b _ h (fun _ _ e => by injection e with _ e _; exact n e)
theorem FBox.kp {w w' : World} {b : Nat} {f : FrameM} {d : Value} (h : FBox w b f d) (hk : Kp w w') : FBox w' b f d := (hk.block b (blk_lt h)).trans h
theorem FBox.mark {w : World} {b : Nat} {f : FrameM} {d : Value} (h : FBox w b f d) : w.cell? ⟨b, 1, none⟩ = some (.int .i64 f.mark) := blk_cell h rfl
theorem FBox.panic {w : World} {b : Nat} {f : FrameM} {d : Value} (h : FBox w b f d) : w.cell? ⟨b, 2, none⟩ = some (.int .i64 f.panic) := blk_cell h rfl
theorem FBox.far {w : World} {b g o : Nat} {f : FrameM} {d : Value} (h : FBox w b f d) (hne : b ≠ g) (v : Value) : FBox (w.setCell ⟨g, o, none⟩ v) b f d := (blk_far (p := ⟨g, o, none⟩) hne v).trans h
set_option maxRecDepth 20000 in
set_option maxHeartbeats 1000000 in
theorem left_rec (w : World) (base pb : Nat) (S : PlM) (f g : FrameM) (s : List FrameM) (q : PanicM) (t : List PanicM) (A : Option Addr) (n c : Nat) (h : Player w base pb S) (hf : okF f) (hn : S.fr = g :: s) (hm : f.mark = 2) (hq : S.pn = q :: t) (hr : q.rcd = true) (hl : S.told.length ≤ 900000000) (hs : s.length ≤ 1000) (hpl : t.length ≤ 900000000) : Calls Try.prog 94 #[.pointer (some ⟨pb, 0, none⟩), frV f A n c] w fun e' w' => e' = .returned (.bool true) ∧ Player w' base pb { S.tell ⟨3, f.id, 0, zV⟩ with pn := dropM S.pn, fr := { g with phase := 1 } :: s } ∧ Below base w w' := by
  obtain ⟨fv, pv, tv, hp⟩ := h
  have hx := hp.fr
  rw [hn] at hx
  obtain ⟨gb, cg, dg, rfl, hcg, hg1, hg2, _⟩ := hx.top
  have H := hid hp; have HF := hid hf; have HN := hid hn; have HQ := hid hq; have HR := hid hr
  have hbase : base ≤ w.heap.size := Nat.le_trans hg1 (Nat.le_of_lt hg2)
  unfold frV
  have t0 : (f.mark == 2) = true := by simp [hm]
  have t1 : (f.mark != 0) = true := by simp [hm]
  have tz : ((s.length : Int) + 1 == 0) = false := by simp; omega
  clear hp hf hn hq hr hm hx
  go_enter Try.func94, Try.ntmps94
  go_wp2_with fail
  have hk := hid ((Kp.refl w).alloc (.cells #[.int .i64 f.id, .int .i64 f.mark, .int .i64 f.panic, .int .i64 f.phase, .slice A n c] 44))
  have HB := hid (show FBox (w.alloc (.cells #[.int .i64 f.id, .int .i64 f.mark, .int .i64 f.panic, .int .i64 f.phase, .slice A n c] 44)) w.heap.size f (.slice A n c) from blk_new _ _)
  have hc := tell_at _ base pb S ⟨3, f.id, 0, zV⟩ none 0 (H.out.kp hk.out) (okT_nums (ok_small (by omega) (by omega)) HF.out.1 ok0) (by omega)
  refine hc.mono ?_; clear hc
  rintro e' w2 ⟨rfl, ⟨tv2, hp2⟩, hb2, ht2⟩
  have HP2 := hid hp2; have HB2 := hid (Below.trans (Below.mono hk.out hbase) hb2)
  have HX2 := hid (HB.out.two ht2)
  have c0 := hp2.c0
  have x1 := HX2.out.mark
  have hq2 : (S.tell ⟨3, f.id, 0, zV⟩).pn = q :: t := HQ.out
  obtain ⟨gp, cp, _, _, p1, hgp1, hgp2, _, _, _, _, _, p5, _⟩ := Player.last ⟨_, _, _, hp2⟩ hq2
  rw [HR.out] at p5
  have P5 := hid p5
  clear hp2 hb2 ht2 hq2 p5
  go_wp2_with fail
  have hc := last_at w2 pb gp t.length cp p1 (by omega)
  refine hc.mono ?_; clear hc
  rintro e' w3 ⟨rfl, n3, rfl⟩
  have p5 := P5.out
  go_wp2_with fail
  have hc := drop_any (w2.drewN n3) base pb _ (HP2.out.kp ((Kp.refl _).drewN n3)) (show (S.tell ⟨3, f.id, 0, zV⟩).pn ≠ [] by show S.pn ≠ []; rw [HQ.out]; simp) (show S.pn.length ≤ 1000000000 by rw [HQ.out]; simp; omega)
  refine hc.mono ?_; clear hc
  rintro e' w4 ⟨rfl, ⟨pv4, hp4⟩, hb4, ht4⟩
  have HP4 := hid hp4; have HB4 := hid (Below.trans (below_drewN HB2.out n3) hb4)
  have HX4 := hid ((HX2.out.kp ((Kp.refl _).drewN n3)).one ht4 (by decide))
  have c04 := hp4.c0
  clear hp4 hb4 ht4 p5 p1 c0 x1
  go_wp2_with fail
  have hc := top_at w4 pb gb s.length cg c04 hs
  refine hc.mono ?_; clear hc
  rintro e' w5 ⟨rfl, n5, rfl⟩
  have HP5 := hid (HP4.out.kp ((Kp.refl _).drewN n5))
  have hx5 := HP5.out.fr
  rw [show ({ S.tell ⟨3, f.id, 0, zV⟩ with pn := dropM (S.tell ⟨3, f.id, 0, zV⟩).pn } : PlM).fr = g :: s from HN.out] at hx5
  obtain ⟨_, _, _, e5, _, _, _, _, _, _, y3, _, yf, _, _, cs5, hb5⟩ := hx5.top
  injection e5 with e5 e6 e7
  injection e5 with e5
  injection e5 with e5 _ _
  subst e5
  have hfin := HP5.out.inFr (rowTouch (o := s.length * 5 + 3) hb5 (.int .i64 1)) (hx5.phase (ph := 1) (ok_small (by omega) (by omega)))
  have HFIN := hid hfin
  have hxb : w.heap.size ≠ gb := by omega
  have HX6 := hid ((HX4.out.kp ((Kp.refl _).drewN n5)).far (o := s.length * 5 + 3) hxb (.int .i64 1))
  have x6 := HX6.out.mark
  clear hfin hx5 hb5 e6 e7 c04
  go_wp2
  go_ret
  exact ⟨rfl, ⟨_, _, _, HFIN.out⟩, (below_drewN HB4.out n5).setCell hg1 _⟩
set_option maxRecDepth 20000 in
set_option maxHeartbeats 1000000 in
theorem left_go2 (w : World) (base pb : Nat) (S : PlM) (f g : FrameM) (s : List FrameM) (q : PanicM) (t : List PanicM) (A : Option Addr) (n c : Nat) (h : Player w base pb S) (hf : okF f) (hn : S.fr = g :: s) (hm : f.mark = 2) (hq : S.pn = q :: t) (hr : q.rcd = false) (hpl : t.length ≤ 900000000) (hl : S.told.length ≤ 900000000) (hs : s.length ≤ 1000) : Calls Try.prog 94 #[.pointer (some ⟨pb, 0, none⟩), frV f A n c] w fun e' w' => e' = .returned (.bool (f.mark != 0)) ∧ Player w' base pb (S.tell ⟨3, f.id, 0, zV⟩) ∧ Below base w w' := by
  obtain ⟨fv, pv, tv, hp⟩ := h
  have hx := hp.fr
  rw [hn] at hx
  obtain ⟨gb, cg, dg, rfl, hcg, hg1, hg2, _⟩ := hx.top
  have H := hid hp; have HF := hid hf; have HN := hid hn
  have hbase : base ≤ w.heap.size := Nat.le_trans hg1 (Nat.le_of_lt hg2)
  unfold frV
  have t0 : (f.mark == 2) = true := by simp [hm]
  have t1 : (f.mark != 0) = true := by simp [hm]
  have HQ := hid hq; have HR := hid hr
  rw [t1]
  clear hq hr hm
  have tz : ((s.length : Int) + 1 == 0) = false := by simp; omega
  clear hp hf hn hx
  go_enter Try.func94, Try.ntmps94
  go_wp2_with fail
  have hk := hid ((Kp.refl w).alloc (.cells #[.int .i64 f.id, .int .i64 f.mark, .int .i64 f.panic, .int .i64 f.phase, .slice A n c] 44))
  have HB := hid (show FBox (w.alloc (.cells #[.int .i64 f.id, .int .i64 f.mark, .int .i64 f.panic, .int .i64 f.phase, .slice A n c] 44)) w.heap.size f (.slice A n c) from blk_new _ _)
  have hc := tell_at _ base pb S ⟨3, f.id, 0, zV⟩ none 0 (H.out.kp hk.out) (okT_nums (ok_small (by omega) (by omega)) HF.out.1 ok0) (by omega)
  refine hc.mono ?_; clear hc
  rintro e' w2 ⟨rfl, ⟨tv2, hp2⟩, hb2, ht2⟩
  have HP2 := hid hp2; have HB2 := hid (Below.trans (Below.mono hk.out hbase) hb2)
  have HX2 := hid (HB.out.two ht2)
  have c0 := hp2.c0
  have x1 := HX2.out.mark
  have hq2 : (S.tell ⟨3, f.id, 0, zV⟩).pn = q :: t := HQ.out
  obtain ⟨gp, cp, _, _, p1, hgp1, hgp2, _, _, _, _, _, p5, _⟩ := Player.last ⟨_, _, _, hp2⟩ hq2
  rw [HR.out] at p5
  have P5 := hid p5
  clear hp2 hb2 ht2 hq2 p5
  go_wp2_with fail
  have hc := last_at w2 pb gp t.length cp p1 (by omega)
  refine hc.mono ?_; clear hc
  rintro e' w3 ⟨rfl, n3, rfl⟩
  have p5 := P5.out
  go_wp2
  go_ret
  exact ⟨rfl, ⟨_, _, _, HP2.out.kp ((Kp.refl _).drewN n3)⟩, below_drewN HB2.out n3⟩
set_option maxRecDepth 20000 in
set_option maxHeartbeats 1000000 in
theorem left_go0 (w : World) (base pb : Nat) (S : PlM) (f g : FrameM) (s : List FrameM) (A : Option Addr) (n c : Nat) (h : Player w base pb S) (hf : okF f) (hn : S.fr = g :: s) (hm : f.mark ≠ 2) (hl : S.told.length ≤ 900000000) (hs : s.length ≤ 1000) : Calls Try.prog 94 #[.pointer (some ⟨pb, 0, none⟩), frV f A n c] w fun e' w' => e' = .returned (.bool (f.mark != 0)) ∧ Player w' base pb (S.tell ⟨3, f.id, 0, zV⟩) ∧ Below base w w' := by
  obtain ⟨fv, pv, tv, hp⟩ := h
  have hx := hp.fr
  rw [hn] at hx
  obtain ⟨gb, cg, dg, rfl, hcg, hg1, hg2, _⟩ := hx.top
  have H := hid hp; have HF := hid hf; have HN := hid hn
  have hbase : base ≤ w.heap.size := Nat.le_trans hg1 (Nat.le_of_lt hg2)
  unfold frV
  have t0 : (f.mark == 2) = false := by simp [hm]
  obtain ⟨b, hb⟩ : ∃ b, (f.mark != 0) = b := ⟨_, rfl⟩
  rw [hb]
  clear hm
  have tz : ((s.length : Int) + 1 == 0) = false := by simp; omega
  clear hp hf hn hx
  go_enter Try.func94, Try.ntmps94
  go_wp2_with fail
  have hk := hid ((Kp.refl w).alloc (.cells #[.int .i64 f.id, .int .i64 f.mark, .int .i64 f.panic, .int .i64 f.phase, .slice A n c] 44))
  have HB := hid (show FBox (w.alloc (.cells #[.int .i64 f.id, .int .i64 f.mark, .int .i64 f.panic, .int .i64 f.phase, .slice A n c] 44)) w.heap.size f (.slice A n c) from blk_new _ _)
  have hc := tell_at _ base pb S ⟨3, f.id, 0, zV⟩ none 0 (H.out.kp hk.out) (okT_nums (ok_small (by omega) (by omega)) HF.out.1 ok0) (by omega)
  refine hc.mono ?_; clear hc
  rintro e' w2 ⟨rfl, ⟨tv2, hp2⟩, hb2, ht2⟩
  have HP2 := hid hp2; have HB2 := hid (Below.trans (Below.mono hk.out hbase) hb2)
  have HX2 := hid (HB.out.two ht2)
  have c0 := hp2.c0
  have x1 := HX2.out.mark
  clear hp2 hb2 ht2
  go_wp2
  go_ret
  exact ⟨rfl, ⟨_, _, _, HP2.out⟩, HB2.out⟩
/-! ### passed -/
def abM (f : FrameM) (q : PanicM) : PanicM := if f.mark = 2 ∧ q.serial = f.panic then { q with abt := true } else q
theorem abM_all (f : FrameM) (l : List PanicM) : l.map (abM f) = abortM f l := by
  unfold abortM abM
  split
  · rename_i h; simp [h]
  · rename_i h; simp [h]
def abMid (f : FrameM) (M : List PanicM) (i : Nat) : List PanicM := (M.take i).map (abM f) ++ M.drop i
theorem abMid_len (f : FrameM) (M : List PanicM) (i : Nat) : (abMid f M i).length = M.length := by unfold abMid; rw [List.length_append, List.length_map, ← List.length_append, List.take_append_drop]
theorem abMid_at {f : FrameM} {M : List PanicM} {i : Nat} {q : PanicM} (h : M[i]? = some q) : (abMid f M i)[i]? = some q := by
  have hi := (List.getElem?_eq_some_iff.1 h).1
  have hl : ((M.take i).map (abM f)).length = i := by rw [List.length_map, List.length_take]; omega
  unfold abMid
  rw [List.getElem?_append_right (by omega), hl, Nat.sub_self, List.getElem?_drop]; exact h
theorem abMid_succ {f : FrameM} {M : List PanicM} {i : Nat} {q : PanicM} (h : M[i]? = some q) : abMid f M (i + 1) = (abMid f M i).set i (abM f q) := by
  have hi := (List.getElem?_eq_some_iff.1 h).1
  have hl : ((M.take i).map (abM f)).length = i := by rw [List.length_map, List.length_take]; omega
  unfold abMid
  rw [List.set_append_right _ _ (by omega), hl, Nat.sub_self, ← take_snoc h, List.map_append, List.append_assoc]
  congr 1
  rw [List.drop_eq_getElem_cons hi, List.set_cons_zero]
  rfl
theorem abMid_same {f : FrameM} {M : List PanicM} {i : Nat} {q : PanicM} (h : M[i]? = some q) (hn : ¬ (f.mark = 2 ∧ q.serial = f.panic)) : abMid f M (i + 1) = abMid f M i := by
  rw [abMid_succ h]
  have e : abM f q = q := by unfold abM; rw [if_neg hn]
  rw [e]
  apply List.ext_getElem?
  intro j
  by_cases hj : i = j
  · subst hj
    rw [List.getElem?_set_self (by rw [abMid_len]; exact (List.getElem?_eq_some_iff.1 h).1), abMid_at h]
  · rw [List.getElem?_set_ne hj]
set_option maxRecDepth 20000 in
set_option maxHeartbeats 2000000 in
theorem passed_any (w : World) (base pb : Nat) (S : PlM) (f g : FrameM) (s : List FrameM) (A : Option Addr) (n c : Nat) (h : Player w base pb S) (hf : okF f) (hn : S.fr = g :: s) (hl : S.told.length ≤ 900000000) (hs : s.length ≤ 1000) (hpl : S.pn.length ≤ 900000000) : Calls Try.prog 95 #[.pointer (some ⟨pb, 0, none⟩), frV f A n c] w fun e' w' => e' = .returned (.bool true) ∧ Player w' base pb { S.tell ⟨4, f.id, 0, zV⟩ with pn := abortM f S.pn, fr := { g with phase := 2 } :: s } ∧ Below base w w' := by
  obtain ⟨fv, pv, tv, hp⟩ := h
  have hx := hp.fr
  rw [hn] at hx
  obtain ⟨gb, cg, dg, rfl, hcg, hg1, hg2, _⟩ := hx.top
  obtain ⟨Ap, cp, rfl, hcp⟩ := hp.pn.len
  have H := hid hp; have HF := hid hf; have HN := hid hn
  have hbase : base ≤ w.heap.size := Nat.le_trans hg1 (Nat.le_of_lt hg2)
  unfold frV
  have tz : ((s.length : Int) + 1 == 0) = false := by simp; omega
  obtain ⟨M, hM⟩ : ∃ M, S.pn.reverse = M := ⟨_, rfl⟩
  have hML : S.pn.length = M.length := by rw [← hM, List.length_reverse]
  have HM := hid hM
  rw [hML] at H hpl
  have HML := hid hML
  clear hp hf hn hx hM hML hcp
  go_enter Try.func95, Try.ntmps95
  go_wp2_with fail
  have hk := hid ((Kp.refl w).alloc (.cells #[.int .i64 f.id, .int .i64 f.mark, .int .i64 f.panic, .int .i64 f.phase, .slice A n c] 44))
  have HB := hid (show FBox (w.alloc (.cells #[.int .i64 f.id, .int .i64 f.mark, .int .i64 f.panic, .int .i64 f.phase, .slice A n c] 44)) w.heap.size f (.slice A n c) from blk_new _ _)
  have hc := tell_at _ base pb S ⟨4, f.id, 0, zV⟩ none 0 (H.out.kp hk.out) (okT_nums (ok_small (by omega) (by omega)) HF.out.1 ok0) (by omega)
  refine hc.mono ?_; clear hc
  rintro e' w2 ⟨rfl, ⟨tv2, hp2⟩, hb2, ht2⟩
  have HP2 := hid hp2; have HB2 := hid (Below.trans (Below.mono hk.out hbase) hb2)
  have HX2 := hid (HB.out.two ht2)
  have c0 := hp2.c0; have c1 := hp2.c1
  clear hp2 hb2 ht2
  go_wp2
  clear c0 c1
  go_loopw [26] (fun i wr => ∃ k : Nat, k ≤ M.length ∧ i = .int .i64 k ∧ Pl wr base pb (.slice (some ⟨gb, 0, none⟩) (s.length + 1) cg) (.slice Ap M.length cp) tv2 { S.tell ⟨4, f.id, 0, zV⟩ with pn := (abMid f M k).reverse } ∧ FBox wr w.heap.size f (.slice A n c) ∧ Below base w wr) (fun i _ => M.length - (intOf i).toNat)
  case atStart =>
    refine ⟨0, by omega, rfl, ?_, HX2.out, HB2.out⟩
    have e : (abMid f M 0).reverse = S.pn := by unfold abMid; rw [List.take_zero, List.map_nil, List.nil_append, List.drop_zero, ← HM.out, List.reverse_reverse]
    rw [e]; exact HP2.out
  case round =>
    obtain ⟨k, hk', rfl, hpr, hxr, hbr⟩ := hrel
    have HPR := hid hpr; have HXR := hid hxr; have HBR := hid hbr
    by_cases hlt : k < M.length
    · have i1 : (k : Int) < (M.length : Int) := by omega
      have i2 : (0 : Int) ≤ (k : Int) := by omega
      obtain ⟨q, hq⟩ : ∃ q, M[k]? = some q := ⟨_, List.getElem?_eq_getElem hlt⟩
      have HQ := hid hq
      have hrv : (abMid f M k).reverse.reverse[k]? = some q := by rw [List.reverse_reverse]; exact abMid_at hq
      obtain ⟨gp, cp', Aq, cq, e5, hcq, hgp1, hgp2, z0, _, _, _, _, _, z6, zf, hqok, cs6, hb6⟩ := hpr.pn.at_ hrv
      injection e5 with e5 e6 e7
      subst e5; subst e7
      have c1 := hpr.c1
      have x1 := hxr.mark; have x2 := hxr.panic
      have HZF := hid zf; have HB6 := hid hb6
      have hxb : w.heap.size < wr.heap.size := blk_lt hxr
      have HRV := hid hrv
      clear hpr hxr hbr hq hrv e6 hqok zf hb6 hcq
      by_cases hcond : f.mark = 2 ∧ q.serial = f.panic
      · have HC := hid hcond
        have t1 : (f.mark == 2) = true := by simp [hcond.1]
        have t2 : (q.serial == f.panic) = true := by simp [hcond.2]
        have zf6 := HZF.out (k * 7 + 6)
        clear hcond
        go_wp2
        go_quiet (fail)
        go_wp2
        have hpd := HPR.out.kp ((Kp.refl _).drewN nq)
        have hset := PnRow.set hpd.pn HRV.out (q' := { q with abt := true }) 6 (by omega) (.bool true) (fun _ _ => rfl) (fun h => h)
        have hblk6 : (wr.drewN nq).heap[gp]? = some (.cells cs6 46 (0, 0)) := HB6.out
        have hfin := hpd.inPn (rowTouch (o := k * 7 + 6) hblk6 (.bool true)) (P2 := (abMid f M (k + 1)).reverse) (by
          have e : abM f q = { q with abt := true } := by unfold abM; rw [if_pos HC.out]
          have e2 : ((abMid f M k).reverse.reverse).set k { q with abt := true } = (abMid f M (k + 1)).reverse.reverse := by
            rw [List.reverse_reverse, List.reverse_reverse, abMid_succ HQ.out, e]
          rw [e2] at hset
          exact hset)
        have hne : w.heap.size ≠ gp := fun e => by
          have h1 := HXR.out
          unfold FBox at h1
          rw [e, HB6.out] at h1
          injection h1 with h1
          injection h1 with _ h1 _
          exact absurd h1 (by decide)
        have hfb := (HXR.out.kp ((Kp.refl _).drewN nq)).far (o := k * 7 + 6) hne (.bool true)
        have hbw := (below_drewN HBR.out nq).setCell (p := ⟨gp, k * 7 + 6, none⟩) hgp1 (.bool true)
        go_roundw
        case rel => exact ⟨k + 1, hlt, by simp, hfin, hfb, hbw⟩
        case measure => simp [intOf]; omega
      · have HC := hid hcond
        have htt : (f.mark == 2) = false ∨ ((f.mark == 2) = true ∧ (q.serial == f.panic) = false) := by
          by_cases h1 : f.mark = 2
          · exact .inr ⟨by simp [h1], by simp; exact fun h2 => hcond ⟨h1, h2⟩⟩
          · exact .inl (by simp [h1])
        clear hcond
        rcases htt with t1 | ⟨t1, t2⟩
        all_goals
          go_wp2
          go_quiet (fail)
          go_wp2
          go_roundw
          case rel => exact ⟨k + 1, hlt, by simp, by rw [abMid_same HQ.out HC.out]; exact HPR.out.kp ((Kp.refl _).drewN nq), HXR.out.kp ((Kp.refl _).drewN nq), below_drewN HBR.out nq⟩
          case measure => simp [intOf]; omega
    · obtain rfl : k = M.length := by omega
      have i1 : ¬ (M.length : Int) < (M.length : Int) := by omega
      have eall : (abMid f M M.length).reverse = abortM f S.pn := by
        unfold abMid
        rw [List.take_length, List.drop_length, List.append_nil, abM_all, ← HM.out]
        unfold abortM
        split <;> simp
      rw [eall] at hpr
      have HPA := hid hpr
      have c0 := hpr.c0
      clear hpr hxr hbr HPR HXR eall
      go_wp2_with fail
      have hc := top_at wr pb gb s.length cg c0 hs
      refine hc.mono ?_; clear hc
      rintro e' w5 ⟨rfl, n5, rfl⟩
      have HP5 := hid (HPA.out.kp ((Kp.refl _).drewN n5))
      have hx5 := HP5.out.fr
      rw [show ({ S.tell ⟨4, f.id, 0, zV⟩ with pn := abortM f S.pn } : PlM).fr = g :: s from HN.out] at hx5
      obtain ⟨_, _, _, e5, _, _, _, _, _, _, y3, _, yf, _, _, cs5, hb5⟩ := hx5.top
      injection e5 with e5 e6 e7
      injection e5 with e5
      injection e5 with e5 _ _
      subst e5
      have hfin := HP5.out.inFr (rowTouch (o := s.length * 5 + 3) hb5 (.int .i64 2)) (hx5.phase (ph := 2) (ok_small (by omega) (by omega)))
      have HFIN := hid hfin
      clear hfin hx5 hb5 e6 e7 c0
      go_wp2
      go_ret
      exact ⟨rfl, ⟨_, _, _, HFIN.out⟩, (below_drewN HBR.out n5).setCell hg1 _⟩
end Go.Proofs.Ytiicdknmoakocaa
