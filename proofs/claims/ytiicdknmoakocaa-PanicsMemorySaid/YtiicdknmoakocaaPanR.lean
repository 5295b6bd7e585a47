/-
  Package panics: start. Condition: what is told, and the numbers, stay small.
-/
import Derived.Test.YtiicdknmoakocaaPanQ
namespace Go.Proofs.Ytiicdknmoakocaa
open Go.RowKit
set_option linter.unusedVariables false
set_option linter.unusedSimpArgs false

theorem FrX.last {w : World} {base : Nat} {v d : Value} {f : FrameM} {r : List FrameM} {a : List (FrameM × Value)} (h : FrX w base v (a ++ [(f, d)]) (f :: r)) (e2 : a.length = r.length) : ∃ g c, v = .slice (some ⟨g, 0, none⟩) (r.length + 1) c ∧ r.length + 1 ≤ c ∧ base ≤ g ∧ g < w.heap.size ∧
    w.cell? ⟨g, r.length * 5, none⟩ = some (.int .i64 f.id) ∧ w.cell? ⟨g, r.length * 5 + 1, none⟩ = some (.int .i64 f.mark) ∧ w.cell? ⟨g, r.length * 5 + 2, none⟩ = some (.int .i64 f.panic) ∧ w.cell? ⟨g, r.length * 5 + 3, none⟩ = some (.int .i64 f.phase) ∧ w.cell? ⟨g, r.length * 5 + 4, none⟩ = some d ∧
    (∀ j, w.frozen? ⟨g, j, none⟩ = false) ∧ OwnI w base d f.defers ∧ okF f := by
  obtain ⟨h1, h2, h3, h4, h5⟩ := h
  have hlen : (a ++ [(f, d)]).length = r.length + 1 := by simp [e2]
  rw [hlen] at h1
  obtain ⟨g, c, rfl, hc⟩ := rowSome h1 (by omega)
  obtain ⟨hg1, hg2⟩ := rowGe h1
  have cl : ∀ j, j < 5 → w.cell? ⟨g, r.length * 5 + j, none⟩ = (frCells f d)[j]? := fun j hj => by
    rw [(rowAt h1 (show r.length * 5 + j < (r.length + 1) * 5 by omega)).1, ← e2]
    exact flatF_at a [] (f, d) j hj
  refine ⟨g, c, rfl, hc, hg1, hg2, cl 0 (by omega), cl 1 (by omega), cl 2 (by omega), cl 3 (by omega), cl 4 (by omega), fun j => ?_, h3 (f, d) (by simp), h4 f (by simp)⟩
  rcases h1.2 with ⟨h6, _⟩ | ⟨g', cap, cur, hv, _, hg, _⟩
  · cases h6
  · cases hv; exact blk_free hg
/-- The deferred calls of an activation: the last one, and the rest. -/
theorem own_last {w : World} {base k : Nat} {v : Value} {D : List Int} (h : OwnI w base v D) (hk : D.length = k + 1) : ∃ g c, v = .slice (some ⟨g, 0, none⟩) (k + 1) c ∧ k + 1 ≤ c ∧ w.cell? ⟨g, k, none⟩ = some (.int .i64 (D.getLastD 0)) ∧ OwnI w base (.slice (some ⟨g, 0, none⟩) k c) D.dropLast ∧ g < w.heap.size := by
  have h1 : w.ownsRow base 3 1 v (k + 1) (D.map intV) := by rw [← hk]; exact h
  obtain ⟨g, c, rfl, hc⟩ := rowSome h1 (by omega)
  have hlast : D.getLastD 0 = D[k] := by
    have e : D.length - 1 = k := by omega
    rw [List.getLastD_eq_getLast?, List.getLast?_eq_getElem?, List.getElem?_eq_getElem (by omega)]
    simp [e]
  refine ⟨g, c, rfl, hc, ?_, ?_, (rowGe h1).2⟩
  · rw [(rowAt h1 (show k < (k + 1) * 1 by omega)).1, List.getElem?_map, List.getElem?_eq_getElem (by omega), hlast]; rfl
  · have h2 := rowTake h1 (show k ≤ k + 1 by omega)
    have e : D.dropLast = D.take k := by rw [List.dropLast_eq_take, hk, Nat.add_sub_cancel]
    unfold OwnI
    rw [e, List.map_take, List.length_take, hk, Nat.min_eq_left (by omega)]
    rw [Nat.mul_one] at h2
    exact h2
theorem FrX.second {w : World} {base g n c : Nat} {f t : FrameM} {d dt : Value} {r F : List FrameM} {a : List (FrameM × Value)} (h : FrX w base (.slice (some ⟨g, 0, none⟩) n c) (a ++ [(f, d)] ++ [(t, dt)]) F) (e2 : a.length = r.length) : w.cell? ⟨g, r.length * 5 + 4, none⟩ = some d := by
  obtain ⟨h1, _⟩ := h
  have hlen : (a ++ [(f, d)] ++ [(t, dt)]).length = r.length + 2 := by simp [e2]
  rw [hlen] at h1
  have hn : n = r.length + 2 := rowN h1
  subst hn
  rw [(rowAt h1 (show r.length * 5 + 4 < (r.length + 2) * 5 by omega)).1, ← e2]
  have hform : a ++ [(f, d)] ++ [(t, dt)] = a ++ (f, d) :: [(t, dt)] := by simp
  rw [hform]
  exact flatF_at a [(t, dt)] (f, d) 4 (by omega)
theorem FrX.free {w : World} {base g n c : Nat} {L : List (FrameM × Value)} {F : List FrameM} (h : FrX w base (.slice (some ⟨g, 0, none⟩) n c) L F) (j : Nat) : w.frozen? ⟨g, j, none⟩ = false := by
  obtain ⟨h1, _⟩ := h
  rcases h1.2 with ⟨h6, _⟩ | ⟨g', cap, cur, hv, _, hg, _⟩
  · cases h6
  · cases hv; exact blk_free hg
theorem FrX.blk {w : World} {base g n c : Nat} {L : List (FrameM × Value)} {F : List FrameM} (h : FrX w base (.slice (some ⟨g, 0, none⟩) n c) L F) : ∃ cs, w.heap[g]? = some (.cells cs 44 (0, 0)) := by
  obtain ⟨h1, _⟩ := h
  rcases h1.2 with ⟨h6, _⟩ | ⟨g', cap, cur, hv, _, hg, _⟩
  · cases h6
  · cases hv; exact ⟨_, hg⟩
theorem below_drewN {B : Nat} {a w : World} (h : Below B a w) (n : Nat) : Below B a (w.drewN n) := ⟨h.os, h.tape, h.output, h.size, h.block⟩
theorem dropLast_ok {D : List Int} (h : ∀ x ∈ D, okI x) (hl : D.length ≤ 1000000) : (∀ x ∈ D.dropLast, okI x) ∧ D.dropLast.length ≤ 1000000 := ⟨fun x hx => h x (List.dropLast_subset _ hx), by rw [List.length_dropLast]; omega⟩
theorem lastDef_ok {f : FrameM} (h : okF f) : okI (lastDef f) := by
  unfold lastDef
  rw [List.getLastD_eq_getLast?]
  cases hq : f.defers.getLast? with
  | none => exact ok0
  | some x => exact h.2.2.2.2.1 x (List.mem_of_getLast? hq)
set_option maxRecDepth 20000 in
set_option maxHeartbeats 4000000 in
theorem start_any (w : World) (base pb : Nat) (S : PlM) (f : FrameM) (r : List FrameM) (h : Player w base pb S) (hfr : S.fr = f :: r) (hd : f.defers ≠ []) (hph : f.phase = 2 → S.pn ≠ []) (hf : S.fr.length ≤ 30) (hl : S.told.length ≤ 900000000) (hn : 0 ≤ S.next) (hn2 : S.next ≤ 900000000) (hpl : S.pn.length ≤ 900000000) : Calls Try.prog 93 #[.pointer (some ⟨pb, 0, none⟩)] w fun e' w' => e' = .returned (.tuple #[]) ∧ Player w' base pb (startM S f r) ∧ Below base w w' := by
  obtain ⟨fv, pv, tv, hp⟩ := h
  obtain ⟨L, hx⟩ := hp.fr
  rw [hfr] at hx hf
  obtain ⟨a, d, rfl, ea, e2⟩ := split_rev hx.2.1
  obtain ⟨g, c, rfl, hc, hge, hgl, p0, p1, p2, p3, p4, pf, po, pok⟩ := FrX.last hx e2
  obtain ⟨k, hk⟩ : ∃ k, f.defers.length = k + 1 := by
    cases hq : f.defers with
    | nil => exact absurd hq hd
    | cons x y => exact ⟨y.length, rfl⟩
  obtain ⟨gd, cd, rfl, hcd, q1, q2, hgd⟩ := own_last po hk
  have hpb := hp.lt
  have hpge := hp.ge
  have c0 := hp.c0
  have HFR := hid hfr
  have hrl : r.length ≤ 29 := by simp at hf; omega
  have HP := hid hp; have HX := hid hx; have HR := hid q2; have HOK := hid pok
  obtain ⟨nn, hnn⟩ : ∃ nn, f.defers.getLastD 0 = nn := ⟨_, rfl⟩
  rw [hnn] at q1
  have HNN := hid (show lastDef f = nn from hnn)
  have HNK := hid (show okI nn by rw [← hnn]; exact lastDef_ok pok)
  have P0 := hid p0; have P3 := hid p3; have P4 := hid p4; have Q1 := hid q1
  have HK := hid hk; have HE2 := hid e2; have HPH := hid hph
  have hkl : k ≤ 1000000 := by have := pok.2.2.2.2.2; omega
  clear hp hx q2 pok hnn p0 p1 p2 hfr hk po hph hd hf e2
  by_cases hp2 : f.phase = 2
  · have t0 : (f.phase == 2) = true := by simp [hp2]
    obtain ⟨q, s, hq⟩ : ∃ q s, S.pn = q :: s := by
      cases hq : S.pn with
      | nil => exact absurd hq (HPH.out hp2)
      | cons q s => exact ⟨q, s, rfl⟩
    have hqa : S.pn.reverse[s.length]? = some q := by rw [hq]; simp
    obtain ⟨gp, cp, Ap', cp', rfl, hcp, hgp, hgpl, z0, _, _, _, _, _, _, _, hqok, _⟩ := PnRow.at_ HP.out.pn hqa
    have hsl : s.length ≤ 1000000000 := by rw [hq] at hpl; simp at hpl; omega
    have c1 := HP.out.c1
    rw [show S.pn.length = s.length + 1 by rw [hq]; rfl] at c1
    have C1 := hid c1; have Z0 := hid z0
    have MKOK : okI 2 := ok_small (by omega) (by omega)
    have SROK : okI q.serial := hqok.1
    have SM := hid (show startMark f = 2 by unfold startMark; rw [if_pos hp2])
    have SS := hid (show startSer S f = q.serial by unfold startSer; rw [if_pos hp2, hq]; rfl)
    clear hp2 HPH c1 z0 hq hqa hqok
    go_enter Try.func93, Try.ntmps93
    go_wp2_with fail
    have hc := top_at w pb g r.length c c0 (by omega)
    refine hc.mono ?_; clear hc
    rintro e' w1 ⟨rfl, n1, rfl⟩
    go_wp2
    refine wp_region_kp [[], [0], [1], [2], [3], [], [4]] (fun u => Kp w u)
      [fun (y : Value) (u : World) => y = (.pointer (some ⟨pb, 0, none⟩) : Value),
       fun (y : Value) (u : World) => y = (.pointer (some ⟨gp, s.length * 7, none⟩) : Value),
       fun (y : Value) (u : World) => y = (.pointer (some ⟨gp, s.length * 7, none⟩) : Value),
       fun (y : Value) (u : World) => y = (.pointer (some ⟨gp, s.length * 7, none⟩) : Value),
       fun (y : Value) (u : World) => y = (.int .i64 q.serial : Value),
       fun (y : Value) (u : World) => y = (.int .i64 2 : Value),
       fun (y : Value) (u : World) => y = (.int .i64 q.serial : Value)]
      (by kernel_rfl) (by kernel_rfl) (by kernel_rfl) (by kernel_rfl) (((Kp.refl _).drewN n1).drew) (fun _ _ hk h => h.trans hk) ⟨fun _ _ _ _ h => h, fun _ _ _ _ h => h, fun _ _ _ _ h => h, fun _ _ _ _ h => h, fun _ _ _ _ h => h, fun _ _ _ _ h => h, fun _ _ _ _ h => h, trivial⟩ ⟨?sb0, ?sb1, ?sb2, ?sb3, ?sb4, ?sb5, ?sb6, trivial⟩ ?hEb
    case sb0 =>
      intro x u hg hd K hK
      clear hd
      refine ⟨?_⟩
      simp only [putsFrom, Act.put, List.setIfInBounds_toArray, List.set_cons_zero, List.set_cons_succ, Nat.reduceAdd] at hK ⊢
      go_simp
      exact hK.out _ _ (Kp.refl _) rfl
    case sb1 =>
      intro x u hg hd K hK
      have d0 : (x 0) = .pointer (some ⟨pb, 0, none⟩) := And.left hd
      clear hd
      refine ⟨?_⟩
      simp only [putsFrom, Act.put, List.setIfInBounds_toArray, List.set_cons_zero, List.set_cons_succ, Nat.reduceAdd, d0] at hK ⊢
      go_simp
      go_at_call 96
      have hc := last_at u pb gp s.length cp (cell_kp hg hpb C1.out) hsl
      refine hc.mono ?_
      clear hc
      rintro e u' ⟨rfl, q', rfl⟩
      dsimp only
      exact hK.out _ _ ((Kp.refl _).drewN q') rfl
    case sb2 =>
      intro x u hg hd K hK
      have d1 : (x 1) = .pointer (some ⟨gp, s.length * 7, none⟩) := And.left hd
      clear hd
      refine ⟨?_⟩
      simp only [putsFrom, Act.put, List.setIfInBounds_toArray, List.set_cons_zero, List.set_cons_succ, Nat.reduceAdd, d1] at hK ⊢
      go_simp
      exact hK.out _ _ (Kp.refl _) rfl
    case sb3 =>
      intro x u hg hd K hK
      have d2 : (x 2) = .pointer (some ⟨gp, s.length * 7, none⟩) := And.left hd
      clear hd
      refine ⟨?_⟩
      simp only [putsFrom, Act.put, List.setIfInBounds_toArray, List.set_cons_zero, List.set_cons_succ, Nat.reduceAdd, d2] at hK ⊢
      go_simp
      exact hK.out _ _ (Kp.refl _) rfl
    case sb4 =>
      intro x u hg hd K hK
      have d3 : (x 3) = .pointer (some ⟨gp, s.length * 7, none⟩) := And.left hd
      clear hd
      have q0 := cell_kp hg hgpl Z0.out
      refine ⟨?_⟩
      simp only [putsFrom, Act.put, List.setIfInBounds_toArray, List.set_cons_zero, List.set_cons_succ, Nat.reduceAdd, d3] at hK ⊢
      go_simp
      exact hK.out _ _ (Kp.refl _) rfl
    case sb5 =>
      intro x u hg hd K hK
      clear hd
      refine ⟨?_⟩
      simp only [putsFrom, Act.put, List.setIfInBounds_toArray, List.set_cons_zero, List.set_cons_succ, Nat.reduceAdd] at hK ⊢
      go_simp
      exact hK.out _ _ (Kp.refl _) rfl
    case sb6 =>
      intro x u hg hd K hK
      have d4 : (x 4) = .int .i64 q.serial := And.left hd
      clear hd
      refine ⟨?_⟩
      simp only [putsFrom, Act.put, List.setIfInBounds_toArray, List.set_cons_zero, List.set_cons_succ, Nat.reduceAdd, d4] at hK ⊢
      go_simp
      exact hK.out _ _ (Kp.refl _) rfl
    intro x u hg he
    have d0 : (x 0) = .pointer (some ⟨pb, 0, none⟩) := And.left he
    have d1 : (x 1) = .pointer (some ⟨gp, s.length * 7, none⟩) := And.left (And.right he)
    have d2 : (x 2) = .pointer (some ⟨gp, s.length * 7, none⟩) := And.left (And.right (And.right he))
    have d3 : (x 3) = .pointer (some ⟨gp, s.length * 7, none⟩) := And.left (And.right (And.right (And.right he)))
    have d4 : (x 4) = .int .i64 q.serial := And.left (And.right (And.right (And.right (And.right he))))
    have d5 : (x 5) = .int .i64 2 := And.left (And.right (And.right (And.right (And.right (And.right he)))))
    have d6 : (x 6) = .int .i64 q.serial := And.left (And.right (And.right (And.right (And.right (And.right (And.right he))))))
    clear he
    refine ⟨?_⟩
    simp only [putsFrom, Act.put, List.setIfInBounds_toArray, List.set_cons_zero, List.set_cons_succ, Nat.reduceAdd, d0, d1, d2, d3, d4, d5, d6]
    clear d0 d1 d2 d3 d4 d5 d6
    have HKW := hid hg
    have hgdu := Nat.lt_of_lt_of_le hgl hg.le
    have p4u := cell_kp hg hgl P4.out
    clear p3 p4 q1 c0
    clear hg
    go_wp2_with fail
    clear p4u
    have HPW := hid (HP.out.kp HKW.out); have HXW := hid (FrX.kp HX.out HKW.out)
    by_cases hful : S.fr.length = 30
    · have hc := begin_full u base pb S 2 q.serial ⟨_, _, _, HPW.out⟩ (by omega) hful
      refine hc.mono ?_; clear hc
      rintro e' w2 ⟨rfl, hb, hbb⟩
      have HBB := hid hbb
      have HFL := hid hful
      clear hbb hful
      go_wp2
      (try simp only [Exit.inBlock, Exit.then])
      refine bodyPost_ret (results_none rfl _ _ _) rfl ?_
      exact ⟨rfl, by unfold startM; rw [if_pos HFL.out]; exact hb, Below.trans (Below.mono HKW.out (Nat.le_trans hge (Nat.le_of_lt hgl))) HBB.out⟩
    · have HFL := hid hful
      have hful2 : S.fr.length < 30 := by have h1 : S.fr.length = r.length + 1 := by rw [HFR.out]; rfl
                                          omega
      have hc := begin_any u base pb S 2 q.serial HPW.out (by rw [HFR.out]; exact HXW.out) hful2 MKOK SROK hn (by omega)
      refine hc.mono ?_; clear hc
      rintro e' w2 ⟨rfl, ⟨fv2, hp2, hx2⟩, hb2⟩
      have HP2 := hid hp2; have HX2 := hid hx2; have HB2 := hid (Below.trans (Below.mono HKW.out (Nat.le_trans hge (Nat.le_of_lt hgl))) hb2)
      obtain ⟨A2, c2, rfl, hc2⟩ := FrRow.len ⟨_, hx2⟩
      have hlen2 : (⟨S.next, 2, q.serial, 0, []⟩ :: S.fr).length = r.length + 2 := by rw [HFR.out]; rfl
      rw [hlen2] at HP2 HX2 hc2
      rw [HFR.out] at HX2
      obtain ⟨g2, c2', d2, e, _, hge2, hgl2, _⟩ := FrRow.top ⟨_, HX2.out⟩
      injection e with e1 e5 e6
      subst e1
      clear e5 e6
      have x0 := HP2.out.c0
      have hpb2 := HP2.out.lt
      clear hp2 hx2 hb2 hful hlen2
      have w5 : (r.length : Int) + 1 < (r.length : Int) + 2 := by omega
      go_wp2
      refine wp_region_last 15 [[], [0], [1], [2], [3], [], [5], [6], [7], [8], [9], [10], [], [4, 11], [13], [12, 14]] (fun u => Kp w2 u)
        [fun (y : Value) (u : World) => y = (.pointer (some ⟨pb, 0, none⟩) : Value),
         fun (y : Value) (u : World) => y = (.pointer (some ⟨pb, 0, none⟩) : Value),
         fun (y : Value) (u : World) => y = (.pointer (some ⟨pb, 0, none⟩) : Value),
         fun (y : Value) (u : World) => y = (.pointer (some ⟨pb, 0, none⟩) : Value),
         fun (y : Value) (u : World) => y = (.slice (some ⟨g2, 0, none⟩) (r.length + 2) c2 : Value),
         fun (y : Value) (u : World) => y = (.pointer (some ⟨pb, 0, none⟩) : Value),
         fun (y : Value) (u : World) => y = (.pointer (some ⟨pb, 0, none⟩) : Value),
         fun (y : Value) (u : World) => y = (.pointer (some ⟨pb, 0, none⟩) : Value),
         fun (y : Value) (u : World) => y = (.pointer (some ⟨pb, 0, none⟩) : Value),
         fun (y : Value) (u : World) => y = (.slice (some ⟨g2, 0, none⟩) (r.length + 2) c2 : Value),
         fun (y : Value) (u : World) => y = (.int .i64 ((r.length : Int) + 2) : Value),
         fun (y : Value) (u : World) => y = (.int .i64 (r.length : Int) : Value),
         fun (y : Value) (u : World) => y = (.slice (some ⟨gd, 0, none⟩) k cd : Value),
         fun (y : Value) (u : World) => y = (.pointer (some ⟨g2, r.length * 5, none⟩) : Value),
         fun (y : Value) (u : World) => y = (.pointer (some ⟨g2, r.length * 5 + 4, none⟩) : Value)]
        (by kernel_rfl) (by kernel_rfl) (by kernel_rfl) (by kernel_rfl) (by kernel_rfl) (by kernel_rfl) ((Kp.refl _).drew) (fun _ _ hk h => h.trans hk) ⟨fun _ _ _ _ h => h, fun _ _ _ _ h => h, fun _ _ _ _ h => h, fun _ _ _ _ h => h, fun _ _ _ _ h => h, fun _ _ _ _ h => h, fun _ _ _ _ h => h, fun _ _ _ _ h => h, fun _ _ _ _ h => h, fun _ _ _ _ h => h, fun _ _ _ _ h => h, fun _ _ _ _ h => h, fun _ _ _ _ h => h, fun _ _ _ _ h => h, fun _ _ _ _ h => h, trivial⟩ ⟨?sc0, ?sc1, ?sc2, ?sc3, ?sc4, ?sc5, ?sc6, ?sc7, ?sc8, ?sc9, ?sc10, ?sc11, ?sc12, ?sc13, ?sc14, trivial⟩ ⟨?hEc, trivial⟩
      case sc0 =>
        intro x u hg hd K hK
        clear hd
        refine ⟨?_⟩
        simp only [putsFrom, Act.put, List.setIfInBounds_toArray, List.set_cons_zero, List.set_cons_succ, Nat.reduceAdd] at hK ⊢
        go_simp
        exact hK.out _ _ (Kp.refl _) rfl
      case sc1 =>
        intro x u hg hd K hK
        have d0 : (x 0) = .pointer (some ⟨pb, 0, none⟩) := And.left hd
        clear hd
        refine ⟨?_⟩
        simp only [putsFrom, Act.put, List.setIfInBounds_toArray, List.set_cons_zero, List.set_cons_succ, Nat.reduceAdd, d0] at hK ⊢
        go_simp
        exact hK.out _ _ (Kp.refl _) rfl
      case sc2 =>
        intro x u hg hd K hK
        have d1 : (x 1) = .pointer (some ⟨pb, 0, none⟩) := And.left hd
        clear hd
        refine ⟨?_⟩
        simp only [putsFrom, Act.put, List.setIfInBounds_toArray, List.set_cons_zero, List.set_cons_succ, Nat.reduceAdd, d1] at hK ⊢
        go_simp
        exact hK.out _ _ (Kp.refl _) rfl
      case sc3 =>
        intro x u hg hd K hK
        have d2 : (x 2) = .pointer (some ⟨pb, 0, none⟩) := And.left hd
        clear hd
        refine ⟨?_⟩
        simp only [putsFrom, Act.put, List.setIfInBounds_toArray, List.set_cons_zero, List.set_cons_succ, Nat.reduceAdd, d2] at hK ⊢
        go_simp
        exact hK.out _ _ (Kp.refl _) rfl
      case sc4 =>
        intro x u hg hd K hK
        have d3 : (x 3) = .pointer (some ⟨pb, 0, none⟩) := And.left hd
        clear hd
        have q9 := (HP2.out.kp hg).c0
        refine ⟨?_⟩
        simp only [putsFrom, Act.put, List.setIfInBounds_toArray, List.set_cons_zero, List.set_cons_succ, Nat.reduceAdd, d3] at hK ⊢
        go_simp
        exact hK.out _ _ (Kp.refl _) rfl
      case sc5 =>
        intro x u hg hd K hK
        clear hd
        refine ⟨?_⟩
        simp only [putsFrom, Act.put, List.setIfInBounds_toArray, List.set_cons_zero, List.set_cons_succ, Nat.reduceAdd] at hK ⊢
        go_simp
        exact hK.out _ _ (Kp.refl _) rfl
      case sc6 =>
        intro x u hg hd K hK
        have d5 : (x 5) = .pointer (some ⟨pb, 0, none⟩) := And.left hd
        clear hd
        refine ⟨?_⟩
        simp only [putsFrom, Act.put, List.setIfInBounds_toArray, List.set_cons_zero, List.set_cons_succ, Nat.reduceAdd, d5] at hK ⊢
        go_simp
        exact hK.out _ _ (Kp.refl _) rfl
      case sc7 =>
        intro x u hg hd K hK
        have d6 : (x 6) = .pointer (some ⟨pb, 0, none⟩) := And.left hd
        clear hd
        refine ⟨?_⟩
        simp only [putsFrom, Act.put, List.setIfInBounds_toArray, List.set_cons_zero, List.set_cons_succ, Nat.reduceAdd, d6] at hK ⊢
        go_simp
        exact hK.out _ _ (Kp.refl _) rfl
      case sc8 =>
        intro x u hg hd K hK
        have d7 : (x 7) = .pointer (some ⟨pb, 0, none⟩) := And.left hd
        clear hd
        refine ⟨?_⟩
        simp only [putsFrom, Act.put, List.setIfInBounds_toArray, List.set_cons_zero, List.set_cons_succ, Nat.reduceAdd, d7] at hK ⊢
        go_simp
        exact hK.out _ _ (Kp.refl _) rfl
      case sc9 =>
        intro x u hg hd K hK
        have d8 : (x 8) = .pointer (some ⟨pb, 0, none⟩) := And.left hd
        clear hd
        have q9 := (HP2.out.kp hg).c0
        refine ⟨?_⟩
        simp only [putsFrom, Act.put, List.setIfInBounds_toArray, List.set_cons_zero, List.set_cons_succ, Nat.reduceAdd, d8] at hK ⊢
        go_simp
        exact hK.out _ _ (Kp.refl _) rfl
      case sc10 =>
        intro x u hg hd K hK
        have d9 : (x 9) = .slice (some ⟨g2, 0, none⟩) (r.length + 2) c2 := And.left hd
        clear hd
        refine ⟨?_⟩
        simp only [putsFrom, Act.put, List.setIfInBounds_toArray, List.set_cons_zero, List.set_cons_succ, Nat.reduceAdd, d9] at hK ⊢
        go_simp
        exact hK.out _ _ (Kp.refl _) rfl
      case sc11 =>
        intro x u hg hd K hK
        have d10 : (x 10) = .int .i64 ((r.length : Int) + 2) := And.left hd
        clear hd
        have w1 : IntKind.i64.wrap ((r.length : Int) + 2 - 2) = (r.length : Int) := by rw [IntWalk.i64_in _ (by omega)]; omega
        have w2 : IntKind.i64.wrap (r.length : Int) = (r.length : Int) := IntWalk.i64_in _ (by omega)
        refine ⟨?_⟩
        simp only [putsFrom, Act.put, List.setIfInBounds_toArray, List.set_cons_zero, List.set_cons_succ, Nat.reduceAdd, d10] at hK ⊢
        go_simp
        exact hK.out _ _ (Kp.refl _) rfl
      case sc12 =>
        intro x u hg hd K hK
        clear hd
        refine ⟨?_⟩
        simp only [putsFrom, Act.put, List.setIfInBounds_toArray, List.set_cons_zero, List.set_cons_succ, Nat.reduceAdd] at hK ⊢
        go_simp
        exact hK.out _ _ (Kp.refl _) rfl
      case sc13 =>
        intro x u hg hd K hK
        have d4 : (x 4) = .slice (some ⟨g2, 0, none⟩) (r.length + 2) c2 := And.left hd
        have d11 : (x 11) = .int .i64 (r.length : Int) := And.left (And.right hd)
        clear hd
        have w1 : (r.length : Int) < (r.length : Int) + 2 := by omega
        refine ⟨?_⟩
        simp only [putsFrom, Act.put, List.setIfInBounds_toArray, List.set_cons_zero, List.set_cons_succ, Nat.reduceAdd, d4, d11] at hK ⊢
        go_simp
        exact hK.out _ _ (Kp.refl _) rfl
      case sc14 =>
        intro x u hg hd K hK
        have d13 : (x 13) = .pointer (some ⟨g2, r.length * 5, none⟩) := And.left hd
        clear hd
        refine ⟨?_⟩
        simp only [putsFrom, Act.put, List.setIfInBounds_toArray, List.set_cons_zero, List.set_cons_succ, Nat.reduceAdd, d13] at hK ⊢
        go_simp
        exact hK.out _ _ (Kp.refl _) rfl
      intro x u hg he K hK
      have d0 : (x 0) = .pointer (some ⟨pb, 0, none⟩) := And.left he
      have d1 : (x 1) = .pointer (some ⟨pb, 0, none⟩) := And.left (And.right he)
      have d2 : (x 2) = .pointer (some ⟨pb, 0, none⟩) := And.left (And.right (And.right he))
      have d3 : (x 3) = .pointer (some ⟨pb, 0, none⟩) := And.left (And.right (And.right (And.right he)))
      have d4 : (x 4) = .slice (some ⟨g2, 0, none⟩) (r.length + 2) c2 := And.left (And.right (And.right (And.right (And.right he))))
      have d5 : (x 5) = .pointer (some ⟨pb, 0, none⟩) := And.left (And.right (And.right (And.right (And.right (And.right he)))))
      have d6 : (x 6) = .pointer (some ⟨pb, 0, none⟩) := And.left (And.right (And.right (And.right (And.right (And.right (And.right he))))))
      have d7 : (x 7) = .pointer (some ⟨pb, 0, none⟩) := And.left (And.right (And.right (And.right (And.right (And.right (And.right (And.right he)))))))
      have d8 : (x 8) = .pointer (some ⟨pb, 0, none⟩) := And.left (And.right (And.right (And.right (And.right (And.right (And.right (And.right (And.right he))))))))
      have d9 : (x 9) = .slice (some ⟨g2, 0, none⟩) (r.length + 2) c2 := And.left (And.right (And.right (And.right (And.right (And.right (And.right (And.right (And.right (And.right he)))))))))
      have d10 : (x 10) = .int .i64 ((r.length : Int) + 2) := And.left (And.right (And.right (And.right (And.right (And.right (And.right (And.right (And.right (And.right (And.right he))))))))))
      have d11 : (x 11) = .int .i64 (r.length : Int) := And.left (And.right (And.right (And.right (And.right (And.right (And.right (And.right (And.right (And.right (And.right (And.right he)))))))))))
      have d12 : (x 12) = .slice (some ⟨gd, 0, none⟩) k cd := And.left (And.right (And.right (And.right (And.right (And.right (And.right (And.right (And.right (And.right (And.right (And.right (And.right he))))))))))))
      have d13 : (x 13) = .pointer (some ⟨g2, r.length * 5, none⟩) := And.left (And.right (And.right (And.right (And.right (And.right (And.right (And.right (And.right (And.right (And.right (And.right (And.right (And.right he)))))))))))))
      have d14 : (x 14) = .pointer (some ⟨g2, r.length * 5 + 4, none⟩) := And.left (And.right (And.right (And.right (And.right (And.right (And.right (And.right (And.right (And.right (And.right (And.right (And.right (And.right (And.right he))))))))))))))
      clear he
      have hxu := FrX.kp HX2.out hg
      have hpu := HP2.out.kp hg
      have q4 : u.cell? ⟨g2, r.length * 5 + 4, none⟩ = some (.slice (some ⟨gd, 0, none⟩) (k + 1) cd) := FrX.second hxu HE2.out
      have hqf : u.frozen? ⟨g2, r.length * 5 + 4, none⟩ = false := FrX.free hxu _
      refine ⟨?_⟩
      simp only [putsFrom, Act.put, List.setIfInBounds_toArray, List.set_cons_zero, List.set_cons_succ, Nat.reduceAdd, d0, d1, d2, d3, d4, d5, d6, d7, d8, d9, d10, d11, d12, d13, d14] at hK ⊢
      go_simp
      refine hK.out undef _ ⟨?_⟩
      clear hK
      clear d0 d1 d2 d3 d4 d5 d6 d7 d8 d9 d10 d11 d12 d13 d14
      have hown : OwnI u base (.slice (some ⟨gd, 0, none⟩) (k + 1) cd) f.defers := hxu.2.2.1 (f, .slice (some ⟨gd, 0, none⟩) (k + 1) cd) (by simp)
      obtain ⟨gd', cd', e9, _, _, q2u, _⟩ := own_last hown HK.out
      injection e9 with e9 _ e10
      injection e9 with e9
      injection e9 with e9 _ _
      subst e9; subst e10
      have hcut := FrRow.cut (rest := .slice (some ⟨gd, 0, none⟩) k cd) (ds := f.defers.dropLast) ⟨_, hxu⟩ (fun d hd k' hk' => by rw [q4] at hd; injection hd with hd; subst hd; exact hk') q2u (dropLast_ok HOK.out.2.2.2.2.1 HOK.out.2.2.2.2.2)
      obtain ⟨csg, hbg⟩ := FrX.blk hxu
      have htg := rowTouch (o := r.length * 5 + 4) hbg (.slice (some ⟨gd, 0, none⟩) k cd)
      have HPC := hid (hpu.inFr htg hcut)
      obtain ⟨gz, cz, dz, ez, _, _, _, z0, _⟩ := FrRow.top hcut
      injection ez with ez e10 e11
      injection ez with ez
      injection ez with ez _ _
      subst ez
      have Z1 := hid z0
      have HBC := hid (show Below base w (u.setCell ⟨g2, r.length * 5 + 4, none⟩ (.slice (some ⟨gd, 0, none⟩) k cd)) from (Below.trans HB2.out (Below.mono hg (Nat.le_trans hge2 (Nat.le_of_lt hgl2)))).setCell hge2 _)
      clear hown q2u hcut hbg htg z0 hxu hpu q4 hqf x0 e10 e11
      generalize (u.setCell ⟨g2, r.length * 5 + 4, none⟩ (.slice (some ⟨gd, 0, none⟩) k cd)) = W3 at HPC Z1 HBC ⊢
      have y0 := HPC.out.c0
      have z1 := Z1.out
      simp only [List.length_cons] at z1
      go_wp2_with fail
      have hc := top_at W3 pb g2 (r.length + 1) c2 y0 (by omega)
      refine hc.mono ?_; clear hc
      rintro e' w4 ⟨rfl, n4, rfl⟩
      go_wp2_with fail
      have hc := tell_any (W3.drewN n4) base pb _ ⟨2, nn, S.next, zV⟩ none 0 ⟨_, _, _, HPC.out.kp ((Kp.refl _).drewN n4)⟩ (okT_nums (ok_small (by omega) (by omega)) HNK.out HP.out.ok.1) (show S.told.length ≤ 1000000000 by omega)
      refine hc.mono ?_; clear hc
      rintro e' w5 ⟨rfl, hp5, hb5⟩
      have HP5 := hid hp5; have HB5 := hid hb5
      clear hp5 hb5
      have hst : startM S f r = PlM.tell { S.grow 2 q.serial with fr := ⟨S.next, 2, q.serial, 0, []⟩ :: { f with defers := f.defers.dropLast } :: r } ⟨2, nn, S.next, zV⟩ := by
        unfold startM
        rw [if_neg HFL.out, SM.out, SS.out, HNN.out]; rfl
      have HST := hid hst
      clear hst
      go_wp2
      go_end0
      exact ⟨rfl, by rw [HST.out]; exact HP5.out, Below.trans (below_drewN HBC.out n4) HB5.out⟩
  · have t0 : (f.phase == 2) = false := by simp [hp2]
    have SM := hid (show startMark f = 1 by unfold startMark; rw [if_neg hp2])
    have SS := hid (show startSer S f = -1 by unfold startSer; rw [if_neg hp2])
    have MKOK : okI 1 := ok_small (by omega) (by omega)
    have SROK : okI (-1) := ok_small (by omega) (by omega)
    clear hp2 HPH
    go_enter Try.func93, Try.ntmps93
    go_wp2_with fail
    have hc := top_at w pb g r.length c c0 (by omega)
    refine hc.mono ?_; clear hc
    rintro e' w1 ⟨rfl, n1, rfl⟩
    go_wp2_with fail
    have HKW := hid ((Kp.refl w).drewN n1)
    generalize w.drewN n1 = u at HKW ⊢
    clear p3 p4 q1 c0
    have HPW := hid (HP.out.kp HKW.out); have HXW := hid (FrX.kp HX.out HKW.out)
    by_cases hful : S.fr.length = 30
    · have hc := begin_full u base pb S 1 (-1) ⟨_, _, _, HPW.out⟩ (by omega) hful
      refine hc.mono ?_; clear hc
      rintro e' w2 ⟨rfl, hb, hbb⟩
      have HBB := hid hbb
      have HFL := hid hful
      clear hbb hful
      go_wp2
      (try simp only [Exit.inBlock, Exit.then])
      refine bodyPost_ret (results_none rfl _ _ _) rfl ?_
      exact ⟨rfl, by unfold startM; rw [if_pos HFL.out]; exact hb, Below.trans (Below.mono HKW.out (Nat.le_trans hge (Nat.le_of_lt hgl))) HBB.out⟩
    · have HFL := hid hful
      have hful2 : S.fr.length < 30 := by have h1 : S.fr.length = r.length + 1 := by rw [HFR.out]; rfl
                                          omega
      have hc := begin_any u base pb S 1 (-1) HPW.out (by rw [HFR.out]; exact HXW.out) hful2 MKOK SROK hn (by omega)
      refine hc.mono ?_; clear hc
      rintro e' w2 ⟨rfl, ⟨fv2, hp2, hx2⟩, hb2⟩
      have HP2 := hid hp2; have HX2 := hid hx2; have HB2 := hid (Below.trans (Below.mono HKW.out (Nat.le_trans hge (Nat.le_of_lt hgl))) hb2)
      obtain ⟨A2, c2, rfl, hc2⟩ := FrRow.len ⟨_, hx2⟩
      have hlen2 : (⟨S.next, 1, -1, 0, []⟩ :: S.fr).length = r.length + 2 := by rw [HFR.out]; rfl
      rw [hlen2] at HP2 HX2 hc2
      rw [HFR.out] at HX2
      obtain ⟨g2, c2', d2, e, _, hge2, hgl2, _⟩ := FrRow.top ⟨_, HX2.out⟩
      injection e with e1 e5 e6
      subst e1
      clear e5 e6
      have x0 := HP2.out.c0
      have hpb2 := HP2.out.lt
      clear hp2 hx2 hb2 hful hlen2
      have w5 : (r.length : Int) + 1 < (r.length : Int) + 2 := by omega
      go_wp2
      refine wp_region_last 15 [[], [0], [1], [2], [3], [], [5], [6], [7], [8], [9], [10], [], [4, 11], [13], [12, 14]] (fun u => Kp w2 u)
        [fun (y : Value) (u : World) => y = (.pointer (some ⟨pb, 0, none⟩) : Value),
         fun (y : Value) (u : World) => y = (.pointer (some ⟨pb, 0, none⟩) : Value),
         fun (y : Value) (u : World) => y = (.pointer (some ⟨pb, 0, none⟩) : Value),
         fun (y : Value) (u : World) => y = (.pointer (some ⟨pb, 0, none⟩) : Value),
         fun (y : Value) (u : World) => y = (.slice (some ⟨g2, 0, none⟩) (r.length + 2) c2 : Value),
         fun (y : Value) (u : World) => y = (.pointer (some ⟨pb, 0, none⟩) : Value),
         fun (y : Value) (u : World) => y = (.pointer (some ⟨pb, 0, none⟩) : Value),
         fun (y : Value) (u : World) => y = (.pointer (some ⟨pb, 0, none⟩) : Value),
         fun (y : Value) (u : World) => y = (.pointer (some ⟨pb, 0, none⟩) : Value),
         fun (y : Value) (u : World) => y = (.slice (some ⟨g2, 0, none⟩) (r.length + 2) c2 : Value),
         fun (y : Value) (u : World) => y = (.int .i64 ((r.length : Int) + 2) : Value),
         fun (y : Value) (u : World) => y = (.int .i64 (r.length : Int) : Value),
         fun (y : Value) (u : World) => y = (.slice (some ⟨gd, 0, none⟩) k cd : Value),
         fun (y : Value) (u : World) => y = (.pointer (some ⟨g2, r.length * 5, none⟩) : Value),
         fun (y : Value) (u : World) => y = (.pointer (some ⟨g2, r.length * 5 + 4, none⟩) : Value)]
        (by kernel_rfl) (by kernel_rfl) (by kernel_rfl) (by kernel_rfl) (by kernel_rfl) (by kernel_rfl) ((Kp.refl _).drew) (fun _ _ hk h => h.trans hk) ⟨fun _ _ _ _ h => h, fun _ _ _ _ h => h, fun _ _ _ _ h => h, fun _ _ _ _ h => h, fun _ _ _ _ h => h, fun _ _ _ _ h => h, fun _ _ _ _ h => h, fun _ _ _ _ h => h, fun _ _ _ _ h => h, fun _ _ _ _ h => h, fun _ _ _ _ h => h, fun _ _ _ _ h => h, fun _ _ _ _ h => h, fun _ _ _ _ h => h, fun _ _ _ _ h => h, trivial⟩ ⟨?sd0, ?sd1, ?sd2, ?sd3, ?sd4, ?sd5, ?sd6, ?sd7, ?sd8, ?sd9, ?sd10, ?sd11, ?sd12, ?sd13, ?sd14, trivial⟩ ⟨?hEd, trivial⟩
      case sd0 =>
        intro x u hg hd K hK
        clear hd
        refine ⟨?_⟩
        simp only [putsFrom, Act.put, List.setIfInBounds_toArray, List.set_cons_zero, List.set_cons_succ, Nat.reduceAdd] at hK ⊢
        go_simp
        exact hK.out _ _ (Kp.refl _) rfl
      case sd1 =>
        intro x u hg hd K hK
        have d0 : (x 0) = .pointer (some ⟨pb, 0, none⟩) := And.left hd
        clear hd
        refine ⟨?_⟩
        simp only [putsFrom, Act.put, List.setIfInBounds_toArray, List.set_cons_zero, List.set_cons_succ, Nat.reduceAdd, d0] at hK ⊢
        go_simp
        exact hK.out _ _ (Kp.refl _) rfl
      case sd2 =>
        intro x u hg hd K hK
        have d1 : (x 1) = .pointer (some ⟨pb, 0, none⟩) := And.left hd
        clear hd
        refine ⟨?_⟩
        simp only [putsFrom, Act.put, List.setIfInBounds_toArray, List.set_cons_zero, List.set_cons_succ, Nat.reduceAdd, d1] at hK ⊢
        go_simp
        exact hK.out _ _ (Kp.refl _) rfl
      case sd3 =>
        intro x u hg hd K hK
        have d2 : (x 2) = .pointer (some ⟨pb, 0, none⟩) := And.left hd
        clear hd
        refine ⟨?_⟩
        simp only [putsFrom, Act.put, List.setIfInBounds_toArray, List.set_cons_zero, List.set_cons_succ, Nat.reduceAdd, d2] at hK ⊢
        go_simp
        exact hK.out _ _ (Kp.refl _) rfl
      case sd4 =>
        intro x u hg hd K hK
        have d3 : (x 3) = .pointer (some ⟨pb, 0, none⟩) := And.left hd
        clear hd
        have q9 := (HP2.out.kp hg).c0
        refine ⟨?_⟩
        simp only [putsFrom, Act.put, List.setIfInBounds_toArray, List.set_cons_zero, List.set_cons_succ, Nat.reduceAdd, d3] at hK ⊢
        go_simp
        exact hK.out _ _ (Kp.refl _) rfl
      case sd5 =>
        intro x u hg hd K hK
        clear hd
        refine ⟨?_⟩
        simp only [putsFrom, Act.put, List.setIfInBounds_toArray, List.set_cons_zero, List.set_cons_succ, Nat.reduceAdd] at hK ⊢
        go_simp
        exact hK.out _ _ (Kp.refl _) rfl
      case sd6 =>
        intro x u hg hd K hK
        have d5 : (x 5) = .pointer (some ⟨pb, 0, none⟩) := And.left hd
        clear hd
        refine ⟨?_⟩
        simp only [putsFrom, Act.put, List.setIfInBounds_toArray, List.set_cons_zero, List.set_cons_succ, Nat.reduceAdd, d5] at hK ⊢
        go_simp
        exact hK.out _ _ (Kp.refl _) rfl
      case sd7 =>
        intro x u hg hd K hK
        have d6 : (x 6) = .pointer (some ⟨pb, 0, none⟩) := And.left hd
        clear hd
        refine ⟨?_⟩
        simp only [putsFrom, Act.put, List.setIfInBounds_toArray, List.set_cons_zero, List.set_cons_succ, Nat.reduceAdd, d6] at hK ⊢
        go_simp
        exact hK.out _ _ (Kp.refl _) rfl
      case sd8 =>
        intro x u hg hd K hK
        have d7 : (x 7) = .pointer (some ⟨pb, 0, none⟩) := And.left hd
        clear hd
        refine ⟨?_⟩
        simp only [putsFrom, Act.put, List.setIfInBounds_toArray, List.set_cons_zero, List.set_cons_succ, Nat.reduceAdd, d7] at hK ⊢
        go_simp
        exact hK.out _ _ (Kp.refl _) rfl
      case sd9 =>
        intro x u hg hd K hK
        have d8 : (x 8) = .pointer (some ⟨pb, 0, none⟩) := And.left hd
        clear hd
        have q9 := (HP2.out.kp hg).c0
        refine ⟨?_⟩
        simp only [putsFrom, Act.put, List.setIfInBounds_toArray, List.set_cons_zero, List.set_cons_succ, Nat.reduceAdd, d8] at hK ⊢
        go_simp
        exact hK.out _ _ (Kp.refl _) rfl
      case sd10 =>
        intro x u hg hd K hK
        have d9 : (x 9) = .slice (some ⟨g2, 0, none⟩) (r.length + 2) c2 := And.left hd
        clear hd
        refine ⟨?_⟩
        simp only [putsFrom, Act.put, List.setIfInBounds_toArray, List.set_cons_zero, List.set_cons_succ, Nat.reduceAdd, d9] at hK ⊢
        go_simp
        exact hK.out _ _ (Kp.refl _) rfl
      case sd11 =>
        intro x u hg hd K hK
        have d10 : (x 10) = .int .i64 ((r.length : Int) + 2) := And.left hd
        clear hd
        have w1 : IntKind.i64.wrap ((r.length : Int) + 2 - 2) = (r.length : Int) := by rw [IntWalk.i64_in _ (by omega)]; omega
        have w2 : IntKind.i64.wrap (r.length : Int) = (r.length : Int) := IntWalk.i64_in _ (by omega)
        refine ⟨?_⟩
        simp only [putsFrom, Act.put, List.setIfInBounds_toArray, List.set_cons_zero, List.set_cons_succ, Nat.reduceAdd, d10] at hK ⊢
        go_simp
        exact hK.out _ _ (Kp.refl _) rfl
      case sd12 =>
        intro x u hg hd K hK
        clear hd
        refine ⟨?_⟩
        simp only [putsFrom, Act.put, List.setIfInBounds_toArray, List.set_cons_zero, List.set_cons_succ, Nat.reduceAdd] at hK ⊢
        go_simp
        exact hK.out _ _ (Kp.refl _) rfl
      case sd13 =>
        intro x u hg hd K hK
        have d4 : (x 4) = .slice (some ⟨g2, 0, none⟩) (r.length + 2) c2 := And.left hd
        have d11 : (x 11) = .int .i64 (r.length : Int) := And.left (And.right hd)
        clear hd
        have w1 : (r.length : Int) < (r.length : Int) + 2 := by omega
        refine ⟨?_⟩
        simp only [putsFrom, Act.put, List.setIfInBounds_toArray, List.set_cons_zero, List.set_cons_succ, Nat.reduceAdd, d4, d11] at hK ⊢
        go_simp
        exact hK.out _ _ (Kp.refl _) rfl
      case sd14 =>
        intro x u hg hd K hK
        have d13 : (x 13) = .pointer (some ⟨g2, r.length * 5, none⟩) := And.left hd
        clear hd
        refine ⟨?_⟩
        simp only [putsFrom, Act.put, List.setIfInBounds_toArray, List.set_cons_zero, List.set_cons_succ, Nat.reduceAdd, d13] at hK ⊢
        go_simp
        exact hK.out _ _ (Kp.refl _) rfl
      intro x u hg he K hK
      have d0 : (x 0) = .pointer (some ⟨pb, 0, none⟩) := And.left he
      have d1 : (x 1) = .pointer (some ⟨pb, 0, none⟩) := And.left (And.right he)
      have d2 : (x 2) = .pointer (some ⟨pb, 0, none⟩) := And.left (And.right (And.right he))
      have d3 : (x 3) = .pointer (some ⟨pb, 0, none⟩) := And.left (And.right (And.right (And.right he)))
      have d4 : (x 4) = .slice (some ⟨g2, 0, none⟩) (r.length + 2) c2 := And.left (And.right (And.right (And.right (And.right he))))
      have d5 : (x 5) = .pointer (some ⟨pb, 0, none⟩) := And.left (And.right (And.right (And.right (And.right (And.right he)))))
      have d6 : (x 6) = .pointer (some ⟨pb, 0, none⟩) := And.left (And.right (And.right (And.right (And.right (And.right (And.right he))))))
      have d7 : (x 7) = .pointer (some ⟨pb, 0, none⟩) := And.left (And.right (And.right (And.right (And.right (And.right (And.right (And.right he)))))))
      have d8 : (x 8) = .pointer (some ⟨pb, 0, none⟩) := And.left (And.right (And.right (And.right (And.right (And.right (And.right (And.right (And.right he))))))))
      have d9 : (x 9) = .slice (some ⟨g2, 0, none⟩) (r.length + 2) c2 := And.left (And.right (And.right (And.right (And.right (And.right (And.right (And.right (And.right (And.right he)))))))))
      have d10 : (x 10) = .int .i64 ((r.length : Int) + 2) := And.left (And.right (And.right (And.right (And.right (And.right (And.right (And.right (And.right (And.right (And.right he))))))))))
      have d11 : (x 11) = .int .i64 (r.length : Int) := And.left (And.right (And.right (And.right (And.right (And.right (And.right (And.right (And.right (And.right (And.right (And.right he)))))))))))
      have d12 : (x 12) = .slice (some ⟨gd, 0, none⟩) k cd := And.left (And.right (And.right (And.right (And.right (And.right (And.right (And.right (And.right (And.right (And.right (And.right (And.right he))))))))))))
      have d13 : (x 13) = .pointer (some ⟨g2, r.length * 5, none⟩) := And.left (And.right (And.right (And.right (And.right (And.right (And.right (And.right (And.right (And.right (And.right (And.right (And.right (And.right he)))))))))))))
      have d14 : (x 14) = .pointer (some ⟨g2, r.length * 5 + 4, none⟩) := And.left (And.right (And.right (And.right (And.right (And.right (And.right (And.right (And.right (And.right (And.right (And.right (And.right (And.right (And.right he))))))))))))))
      clear he
      have hxu := FrX.kp HX2.out hg
      have hpu := HP2.out.kp hg
      have q4 : u.cell? ⟨g2, r.length * 5 + 4, none⟩ = some (.slice (some ⟨gd, 0, none⟩) (k + 1) cd) := FrX.second hxu HE2.out
      have hqf : u.frozen? ⟨g2, r.length * 5 + 4, none⟩ = false := FrX.free hxu _
      refine ⟨?_⟩
      simp only [putsFrom, Act.put, List.setIfInBounds_toArray, List.set_cons_zero, List.set_cons_succ, Nat.reduceAdd, d0, d1, d2, d3, d4, d5, d6, d7, d8, d9, d10, d11, d12, d13, d14] at hK ⊢
      go_simp
      refine hK.out undef _ ⟨?_⟩
      clear hK
      clear d0 d1 d2 d3 d4 d5 d6 d7 d8 d9 d10 d11 d12 d13 d14
      have hown : OwnI u base (.slice (some ⟨gd, 0, none⟩) (k + 1) cd) f.defers := hxu.2.2.1 (f, .slice (some ⟨gd, 0, none⟩) (k + 1) cd) (by simp)
      obtain ⟨gd', cd', e9, _, _, q2u, _⟩ := own_last hown HK.out
      injection e9 with e9 _ e10
      injection e9 with e9
      injection e9 with e9 _ _
      subst e9; subst e10
      have hcut := FrRow.cut (rest := .slice (some ⟨gd, 0, none⟩) k cd) (ds := f.defers.dropLast) ⟨_, hxu⟩ (fun d hd k' hk' => by rw [q4] at hd; injection hd with hd; subst hd; exact hk') q2u (dropLast_ok HOK.out.2.2.2.2.1 HOK.out.2.2.2.2.2)
      obtain ⟨csg, hbg⟩ := FrX.blk hxu
      have htg := rowTouch (o := r.length * 5 + 4) hbg (.slice (some ⟨gd, 0, none⟩) k cd)
      have HPC := hid (hpu.inFr htg hcut)
      obtain ⟨gz, cz, dz, ez, _, _, _, z0, _⟩ := FrRow.top hcut
      injection ez with ez e10 e11
      injection ez with ez
      injection ez with ez _ _
      subst ez
      have Z1 := hid z0
      have HBC := hid (show Below base w (u.setCell ⟨g2, r.length * 5 + 4, none⟩ (.slice (some ⟨gd, 0, none⟩) k cd)) from (Below.trans HB2.out (Below.mono hg (Nat.le_trans hge2 (Nat.le_of_lt hgl2)))).setCell hge2 _)
      clear hown q2u hcut hbg htg z0 hxu hpu q4 hqf x0 e10 e11
      generalize (u.setCell ⟨g2, r.length * 5 + 4, none⟩ (.slice (some ⟨gd, 0, none⟩) k cd)) = W3 at HPC Z1 HBC ⊢
      have y0 := HPC.out.c0
      have z1 := Z1.out
      simp only [List.length_cons] at z1
      go_wp2_with fail
      have hc := top_at W3 pb g2 (r.length + 1) c2 y0 (by omega)
      refine hc.mono ?_; clear hc
      rintro e' w4 ⟨rfl, n4, rfl⟩
      go_wp2_with fail
      have hc := tell_any (W3.drewN n4) base pb _ ⟨2, nn, S.next, zV⟩ none 0 ⟨_, _, _, HPC.out.kp ((Kp.refl _).drewN n4)⟩ (okT_nums (ok_small (by omega) (by omega)) HNK.out HP.out.ok.1) (show S.told.length ≤ 1000000000 by omega)
      refine hc.mono ?_; clear hc
      rintro e' w5 ⟨rfl, hp5, hb5⟩
      have HP5 := hid hp5; have HB5 := hid hb5
      clear hp5 hb5
      have hst : startM S f r = PlM.tell { S.grow 1 (-1) with fr := ⟨S.next, 1, -1, 0, []⟩ :: { f with defers := f.defers.dropLast } :: r } ⟨2, nn, S.next, zV⟩ := by
        unfold startM
        rw [if_neg HFL.out, SM.out, SS.out, HNN.out]; rfl
      have HST := hid hst
      clear hst
      go_wp2
      go_end0
      exact ⟨rfl, by rw [HST.out]; exact HP5.out, Below.trans (below_drewN HBC.out n4) HB5.out⟩
end Go.Proofs.Ytiicdknmoakocaa
