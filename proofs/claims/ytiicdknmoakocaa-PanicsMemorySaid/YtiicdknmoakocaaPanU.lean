/-
  Package panics: recover. Condition: what is told, and the numbers, stay small.
-/
import Derived.Test.YtiicdknmoakocaaPanT
namespace Go.Proofs.Ytiicdknmoakocaa
open Go.RowKit
set_option linter.unusedVariables false
set_option linter.unusedSimpArgs false

theorem frLen_le {f : FrameM} {r : List FrameM} {S : PlM} (hf : S.fr = f :: r) (h : S.fr.length ≤ 30) : r.length ≤ 29 := by rw [hf] at h; simp at h; omega
/-- The tests of recover. -/
theorem recover_none (w : World) (base pb : Nat) (S : PlM) (f : FrameM) (r : List FrameM) (h : Player w base pb S) (hf : S.fr = f :: r) (hr : r.length ≤ 1000) (hq : S.pn = []) (hl : S.told.length ≤ 900000000) : Calls Try.prog 64 #[.pointer (some ⟨pb, 0, none⟩)] w fun e' w' => e' = .returned (.tuple #[]) ∧ Player w' base pb (recoverM S) ∧ Below base w w' := by
  have H := hid h
  obtain ⟨g, c, A, cd, c0, hg1, hg2, p0, p1, p2, p3, p4, _, hfo, _⟩ := h.top hf
  have P1 := hid p1
  obtain ⟨fv, pv, tv, hp⟩ := h
  obtain ⟨Ap, cp, rfl, _⟩ := hp.pn.len
  have c1 := hp.c1
  rw [hq] at c1
  have hrm : recoverM S = S.tell ⟨6, 0, 0, zV⟩ := by
    unfold recoverM
    split
    · rename_i h1 h2; rw [hq] at h2; cases h2
    · rfl
  have HRM := hid hrm
  clear hrm
  simp only [List.length_nil] at c1
  clear hp hf hq hfo p0 p1 p2 p3 p4
  have go : ∀ b, (f.mark == 2) = b → Calls Try.prog 64 #[.pointer (some ⟨pb, 0, none⟩)] w fun e' w' => e' = .returned (.tuple #[]) ∧ Player w' base pb (recoverM S) ∧ Below base w w' := by
    intro b hb
    cases b
    all_goals
      go_enter Try.func64, Try.ntmps64
      go_wp2_with fail
      have hc := top_at w pb g r.length c c0 hr
      refine hc.mono ?_; clear hc
      rintro e' w1 ⟨rfl, n1, rfl⟩
      go_wp2_with fail
      have hc := last_none (w.drewN n1) pb cp Ap c1
      refine hc.mono ?_; clear hc
      rintro e' w2 ⟨rfl, n2, rfl⟩
      have p1 := P1.out
      go_wp2
      go_quiet (fail)
      go_wp2_with fail
      have hc := tell_any (w.drewN (n1 + n2 + nq)) base pb S ⟨6, 0, 0, zV⟩ none 0 (H.out.drewN _) (okT_nums (ok_small (by omega) (by omega)) ok0 ok0) (by omega)
      refine hc.mono ?_; clear hc
      rintro e' w3 ⟨rfl, hp3, hb3⟩
      have HP3 := hid hp3; have HB3 := hid (Below.trans (below_drewN (Below.refl base w) (n1 + n2 + nq)) hb3)
      clear hp3 hb3 p1
      go_wp2
      go_end0
      exact ⟨rfl, by rw [HRM.out]; exact HP3.out, HB3.out⟩
  exact go _ rfl
theorem recover_no_eq {S : PlM} {f : FrameM} {r : List FrameM} {q : PanicM} {t : List PanicM} (hf : S.fr = f :: r) (hq : S.pn = q :: t) (hb : recB f (q :: t) = false) : recoverM S = S.tell ⟨6, 0, 0, zV⟩ := by
  unfold recoverM
  split
  · rename_i f' r' q' t' h1 h2
    rw [hf] at h1; rw [hq] at h2
    injection h1 with h1 _; injection h2 with h2 h3
    subst h1; subst h2; subst h3
    rw [hb]; rfl
  · rfl
theorem recover_yes_eq {S : PlM} {f : FrameM} {r : List FrameM} {q : PanicM} {t : List PanicM} (hf : S.fr = f :: r) (hq : S.pn = q :: t) (hb : recB f (q :: t) = true) : recoverM S = { S with pn := { q with rcd := true } :: t, told := S.told ++ [⟨5, 0, 0, plainM q.val⟩] } := by
  unfold recoverM
  split
  · rename_i f' r' q' t' h1 h2
    rw [hf] at h1; rw [hq] at h2
    injection h1 with h1 _; injection h2 with h2 h3
    subst h1; subst h2; subst h3
    rw [hb]; rfl
  · rename_i h1
    exact absurd hq (h1 f r q t hf)
set_option maxRecDepth 20000 in
set_option maxHeartbeats 2000000 in
theorem recover_some (w : World) (base pb : Nat) (S : PlM) (f : FrameM) (r : List FrameM) (q : PanicM) (t : List PanicM) (h : Player w base pb S) (hf : S.fr = f :: r) (hr : r.length ≤ 1000) (hq : S.pn = q :: t) (ht : t.length ≤ 900000000) (hl : S.told.length ≤ 900000000) : Calls Try.prog 64 #[.pointer (some ⟨pb, 0, none⟩)] w fun e' w' => e' = .returned (.tuple #[]) ∧ Player w' base pb (recoverM S) ∧ Below base w w' := by
  have H := hid h
  obtain ⟨g, c, A, cd, c0, hg1, hg2, p0, p1, p2, p3, p4, _, hfo, _⟩ := h.top hf
  obtain ⟨gp, cp, Aq, cq, c1, hgp1, hgp2, z0, z1, z2, z3, z4, z5, z6, zf, hqo, hrec⟩ := h.last hq
  have P1 := hid p1; have P2 := hid p2
  have Z0 := hid z0; have Z1 := hid z1; have Z2 := hid z2; have Z3 := hid z3; have Z4 := hid z4; have Z5 := hid z5; have ZF := hid zf
  have HREC := hid hrec
  have HQO := hid hqo; have HF := hid hf; have HQ := hid hq
  clear h hf hq hfo p0 p1 p2 p3 p4 z0 z1 z2 z3 z4 z5 z6 zf hqo hrec
  have no : ∀ b1 b2 b3, (f.mark == 2) = b1 → (q.serial == f.panic) = b2 → q.rcd = b3 → (b1 && b2 && !b3) = false → Calls Try.prog 64 #[.pointer (some ⟨pb, 0, none⟩)] w fun e' w' => e' = .returned (.tuple #[]) ∧ Player w' base pb (recoverM S) ∧ Below base w w' := by
    intro b1 b2 b3 h1 h2 h3 h4
    have HRM := hid (show recoverM S = S.tell ⟨6, 0, 0, zV⟩ from recover_no_eq HF.out HQ.out (by
      have e1 : decide (f.mark = 2) = b1 := by rw [← h1]; rfl
      have e2 : decide (q.serial = f.panic) = b2 := by rw [← h2]; rfl
      show (decide (f.mark = 2) && decide (q.serial = f.panic) && !q.rcd) = false
      rw [e1, e2, h3]; exact h4))
    have Z5' := hid (show w.cell? ⟨gp, t.length * 7 + 5, none⟩ = some (.bool b3) by rw [← h3]; exact Z5.out)
    clear h3
    cases b1
    · clear h2 h4
      go_enter Try.func64, Try.ntmps64
      go_wp2_with fail
      have hc := top_at w pb g r.length c c0 hr
      refine hc.mono ?_; clear hc
      rintro e' w1 ⟨rfl, n1, rfl⟩
      go_wp2_with fail
      have hc := last_at (w.drewN n1) pb gp t.length cp c1 (by omega)
      refine hc.mono ?_; clear hc
      rintro e' w2 ⟨rfl, n2, rfl⟩
      have p1 := P1.out
      go_wp2
      go_quiet (fail)
      go_wp2_with fail
      have hc := tell_any (w.drewN (n1 + n2 + nq)) base pb S ⟨6, 0, 0, zV⟩ none 0 (H.out.drewN _) (okT_nums (ok_small (by omega) (by omega)) ok0 ok0) (by omega)
      refine hc.mono ?_; clear hc
      rintro e' w3 ⟨rfl, hp3, hb3⟩
      have HP3 := hid hp3; have HB3 := hid (Below.trans (below_drewN (Below.refl base w) (n1 + n2 + nq)) hb3)
      clear hp3 hb3 p1
      go_wp2
      go_end0
      exact ⟨rfl, by rw [HRM.out]; exact HP3.out, HB3.out⟩
    · cases b2
      · clear h4
        go_enter Try.func64, Try.ntmps64
        go_wp2_with fail
        have hc := top_at w pb g r.length c c0 hr
        refine hc.mono ?_; clear hc
        rintro e' w1 ⟨rfl, n1, rfl⟩
        go_wp2_with fail
        have hc := last_at (w.drewN n1) pb gp t.length cp c1 (by omega)
        refine hc.mono ?_; clear hc
        rintro e' w2 ⟨rfl, n2, rfl⟩
        have p1 := P1.out; have p2 := P2.out; have z0 := Z0.out
        go_wp2
        go_quiet (fail)
        go_wp2_with fail
        have hc := tell_any (w.drewN (n1 + n2 + nq)) base pb S ⟨6, 0, 0, zV⟩ none 0 (H.out.drewN _) (okT_nums (ok_small (by omega) (by omega)) ok0 ok0) (by omega)
        refine hc.mono ?_; clear hc
        rintro e' w3 ⟨rfl, hp3, hb3⟩
        have HP3 := hid hp3; have HB3 := hid (Below.trans (below_drewN (Below.refl base w) (n1 + n2 + nq)) hb3)
        clear hp3 hb3 p1 p2 z0
        go_wp2
        go_end0
        exact ⟨rfl, by rw [HRM.out]; exact HP3.out, HB3.out⟩
      · cases b3
        · simp at h4
        · clear h4
          go_enter Try.func64, Try.ntmps64
          go_wp2_with fail
          have hc := top_at w pb g r.length c c0 hr
          refine hc.mono ?_; clear hc
          rintro e' w1 ⟨rfl, n1, rfl⟩
          go_wp2_with fail
          have hc := last_at (w.drewN n1) pb gp t.length cp c1 (by omega)
          refine hc.mono ?_; clear hc
          rintro e' w2 ⟨rfl, n2, rfl⟩
          have p1 := P1.out; have p2 := P2.out; have z0 := Z0.out; have z5 := Z5'.out
          go_wp2
          go_quiet (fail)
          go_wp2_with fail
          have hc := tell_any (w.drewN (n1 + n2 + nq)) base pb S ⟨6, 0, 0, zV⟩ none 0 (H.out.drewN _) (okT_nums (ok_small (by omega) (by omega)) ok0 ok0) (by omega)
          refine hc.mono ?_; clear hc
          rintro e' w3 ⟨rfl, hp3, hb3⟩
          have HP3 := hid hp3; have HB3 := hid (Below.trans (below_drewN (Below.refl base w) (n1 + n2 + nq)) hb3)
          clear hp3 hb3 p1 p2 z0 z5
          go_wp2
          go_end0
          exact ⟨rfl, by rw [HRM.out]; exact HP3.out, HB3.out⟩
  cases hb : recB f (q :: t) with
  | false =>
    refine no _ _ _ rfl rfl rfl ?_
    exact hb
  | true =>
    have HRM := hid (recover_yes_eq HF.out HQ.out hb)
    unfold recB at hb
    simp only [Bool.and_eq_true, decide_eq_true_eq, Bool.not_eq_true'] at hb
    obtain ⟨⟨h1, h2⟩, h3⟩ := hb
    have t1 : (f.mark == 2) = true := by simp [h1]
    have t2 : (q.serial == f.panic) = true := by simp [h2]
    have Z5' := hid (show w.cell? ⟨gp, t.length * 7 + 5, none⟩ = some (.bool false) by rw [← h3]; exact Z5.out)
    clear h1 h2 h3 no
    go_enter Try.func64, Try.ntmps64
    go_wp2_with fail
    have hc := top_at w pb g r.length c c0 hr
    refine hc.mono ?_; clear hc
    rintro e' w1 ⟨rfl, n1, rfl⟩
    go_wp2_with fail
    have hc := last_at (w.drewN n1) pb gp t.length cp c1 (by omega)
    refine hc.mono ?_; clear hc
    rintro e' w2 ⟨rfl, n2, rfl⟩
    have p1 := P1.out; have p2 := P2.out; have z0 := Z0.out; have z5 := Z5'.out; have zf := ZF.out (t.length * 7 + 5)
    go_wp2
    go_quiet (fail)
    have z1 := Z1.out; have z2 := Z2.out; have z3 := Z3.out; have z4 := Z4.out
    clear p1 p2 z0
    go_wp2_with fail
    have HPW := hid (show Player ((w.drewN (n1 + n2 + nq)).setCell ⟨gp, t.length * 7 + 5, none⟩ (.bool true)) base pb { S with pn := { q with rcd := true } :: t } from HREC.out.drewN (n1 + n2 + nq))
    have HBW := hid (show Below base w ((w.drewN (n1 + n2 + nq)).setCell ⟨gp, t.length * 7 + 5, none⟩ (.bool true)) from (below_drewN (Below.refl base w) (n1 + n2 + nq)).setCell hgp1 _)
    generalize ((w.drewN (n1 + n2 + nq)).setCell ⟨gp, t.length * 7 + 5, none⟩ (.bool true)) = W at HPW HBW ⊢
    have hpm := HQO.out.2.2.2.2.2
    have hll := HQO.out.2.2.2.2.1
    have hc := plain_any _ q.val W ⟨.slice Aq 0 cq, rfl, by rw [hll]; exact ⟨by simp, by simp, Aq, cq, rfl, by simp, fun h => by simp at h⟩, HQO.out.2.1, HQO.out.2.2.1, HQO.out.2.2.2.1, by rw [hll]; simp⟩
    rw [hpm] at hc
    refine hc.mono ?_; clear hc
    rintro e' w3 ⟨⟨A3, c3, rfl, _⟩, hk3⟩
    rw [hll]
    have HP3 := hid (HPW.out.kp hk3)
    have HB3 := hid (Below.trans HBW.out (Below.mono hk3 (Nat.le_trans HPW.out.ge.1 (Nat.le_of_lt HPW.out.ge.2))))
    have HPM := hid hpm; have HLL := hid hll
    clear hk3 hpm hll z1 z2 z3 z4 z5 zf c0 c1
    go_wp2_with fail
    have hc := tell_any w3 base pb _ ⟨5, 0, 0, q.val⟩ A3 c3 HP3.out ⟨show okI 5 from ok_small (by omega) (by omega), ok0, ok0, HQO.out.2.1, HQO.out.2.2.1, HQO.out.2.2.2.1, HLL.out⟩ (show S.told.length ≤ 1000000000 by omega)
    refine hc.mono ?_; clear hc
    rintro e' w4 ⟨rfl, hp4, hb4⟩
    have HP4 := hid hp4; have HB4 := hid hb4
    clear hp4 hb4
    go_wp2
    (try simp only [Exit.inBlock, Exit.then])
    refine bodyPost_ret (results_none rfl _ _ _) rfl ?_
    exact ⟨rfl, by rw [HRM.out, HPM.out]; exact HP4.out, Below.trans HB3.out HB4.out⟩
theorem recover_any (w : World) (base pb : Nat) (S : PlM) (f : FrameM) (r : List FrameM) (h : Player w base pb S) (hf : S.fr = f :: r) (hr : r.length ≤ 1000) (ht : S.pn.length ≤ 900000000) (hl : S.told.length ≤ 900000000) : Calls Try.prog 64 #[.pointer (some ⟨pb, 0, none⟩)] w fun e' w' => e' = .returned (.tuple #[]) ∧ Player w' base pb (recoverM S) ∧ Below base w w' := by
  cases hq : S.pn with
  | nil => exact recover_none w base pb S f r h hf hr hq hl
  | cons q t => exact recover_some w base pb S f r q t h hf hr hq (by rw [hq] at ht; simp at ht; omega) hl
end Go.Proofs.Ytiicdknmoakocaa
