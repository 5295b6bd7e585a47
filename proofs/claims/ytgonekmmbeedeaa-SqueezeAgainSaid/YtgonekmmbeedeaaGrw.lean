/-
  Package guard: targets, right. Condition: the rows lie within the reach. (Printed by a program, wip/gen_grw.py.)
-/
import Derived.Test.YtgonekmmbeedeaaGrdP
import Derived.Maps.OwnSet
import Derived.Maps.OwnOps
namespace Go.Proofs.Ytgonekmmbeedeaa.Sq
open Go.RowKit Go.Maps
set_option linter.unusedVariables false
set_option linter.unusedSimpArgs false

theorem keyInt : Keyed Try.prog 3 := int_keyed Try.underlying3
theorem zeroUnit (w : World) : (zeroValue 109).run Try.prog w = .ok (.agg #[]) w := by kernel_rfl
theorem key_ok {t : Int} (h : okI t) : keyOf Try.prog 3 (.int .i64 t) = some (.int .i64 t) := Maps.keyOf_int_mk Try.underlying3 (WalkArith.wf_i64 h)
/-- A map that holds just the goals of a function's instructions. -/
def GoalMap (w : World) (B : Nat) (l : List InsM) : Prop := ∃ cnt, ∃ D : DataW Unit, w.ownsMap Try.prog 3 unitElem B cnt D ∧ cnt ≤ l.length ∧ Maps.IsMap D ∧ ∀ t : Int, Maps.has D (.int .i64 t) = true ↔ goalP l t
theorem map_kp {w w' : World} {B n : Nat} {D : DataW Unit} (h : w.ownsMap Try.prog 3 unitElem B n D) (hk : Kp w w') : w'.ownsMap Try.prog 3 unitElem B n D := by
  have hl := h.lt
  obtain ⟨es, clock, h1, h2⟩ := h
  exact ⟨es, clock, by rw [hk.block _ hl]; exact h1, h2⟩
theorem GoalMap.kp {w w' : World} {B : Nat} {l : List InsM} (h : GoalMap w B l) (hk : Kp w w') : GoalMap w' B l := by
  obtain ⟨n, D, h1, h2⟩ := h
  exact ⟨n, D, map_kp h1 hk, h2⟩
theorem goal_take {l : List InsM} {k : Nat} {i : InsM} (hi : l[k]? = some i) (t : Int) : goalP (l.take (k + 1)) t ↔ goalP (l.take k) t ∨ targetM i = some t := by
  rw [← take_snoc hi]
  unfold goalP
  constructor
  · rintro ⟨j, hj, ht⟩
    rcases List.mem_append.1 hj with hj | hj
    · exact .inl ⟨j, hj, ht⟩
    · rw [List.mem_singleton.1 hj] at ht; exact .inr ht
  · rintro (⟨j, hj, ht⟩ | ht)
    · exact ⟨j, List.mem_append_left _ hj, ht⟩
    · exact ⟨i, List.mem_append_right _ (List.mem_singleton.2 rfl), ht⟩
theorem map_nil : Maps.IsMap (DataW.map ([] : List (Lit × DataW Unit))) := ⟨[], rfl⟩
theorem okI_target {w : World} {i : InsM} (h : CeIns w [.int .i64 i.op, .int .i64 i.a, .int .i64 i.b, .int .i64 i.c, .int .i64 i.d, .int .i64 i.e] i) {t : Int} (ht : targetM i = some t) : okI t := by
  obtain ⟨_, h0, h1, h2, _⟩ := h
  unfold targetM at ht
  split at ht
  · injection ht with ht; rw [← ht]; exact h1
  · split at ht
    · injection ht with ht; rw [← ht]; exact h2
    · cases ht

set_option maxRecDepth 20000 in
set_option maxHeartbeats 8000000 in
theorem targets_any (w : World) (f : FnM) (A : Option Addr) (c : Nat) (h : RdL CeIns 6 w (.slice A f.ins.length c) f.ins) (hl : f.ins.length ≤ 2000000) :
    Calls Try.prog 37 #[.agg #[.string f.name, .int .i64 f.params, .int .i64 f.slots, .int .i64 f.caps, .slice A f.ins.length c]] w fun e w' => (∃ B, e = .returned (.map (some B)) ∧ GoalMap w' B f.ins) ∧ Kp w w' := by
  have H := hid h
  have hmm := @run_makeMap Try.prog
  have HK0 := hid ((Kp.refl w).alloc (.cells #[.string f.name, .int .i64 f.params, .int .i64 f.slots, .int .i64 f.caps, .slice A f.ins.length c] 45))
  have HB0 := hid (blk_new w (.cells #[.string f.name, .int .i64 f.params, .int .i64 f.slots, .int .i64 f.caps, .slice A f.ins.length c] 45))
  have HZ0 := hid (World.size_alloc w (.cells #[.string f.name, .int .i64 f.params, .int .i64 f.slots, .int .i64 f.caps, .slice A f.ins.length c] 45))
  clear h
  go_enter Try.func37, Try.ntmps37
  go_upto_region 1 with fail
  generalize (w.alloc (.cells #[.string f.name, .int .i64 f.params, .int .i64 f.slots, .int .i64 f.caps, .slice A f.ins.length c] 45)) = W at HK0 HB0 HZ0 ⊢
  obtain ⟨n0, hn0⟩ : ∃ n, w.heap.size = n := ⟨_, rfl⟩
  have HNB0 := hid hn0
  rw [hn0] at HB0 HZ0
  try rw [hn0]
  clear hn0
  obtain ⟨B, hB⟩ : ∃ B, W.heap.size = B := ⟨_, rfl⟩
  have HM0 := hid (World.ownsMap_made W Try.prog 3 (unitElem (H := Unit)))
  have HK1 := hid (HK0.out.alloc (.map #[] 0))
  have HB1 := hid (blk_old HB0.out (.map #[] 0))
  go_upto_region 2 with fail
  generalize (W.alloc (.map #[] 0)) = W1 at HM0 HK1 HB1 ⊢
  rw [hB] at HM0 HZ0
  try rw [hB]
  clear hB
  have z4 := blk_cell (o := 4) (v := .slice A f.ins.length c) HB1.out rfl
  have zl := blk_lt HB1.out
  go_wp2_with fail
  clear z4 zl hmm
  have HNB := hid (show w.heap.size ≤ B by have := HZ0.out; have := HNB0.out; omega)
  go_loopw [12] (fun x wr => ∃ (k cnt : Nat) (D : DataW Unit), k ≤ f.ins.length ∧ x = .int .i64 (k : Int) ∧ wr.ownsMap Try.prog 3 unitElem B cnt D ∧ cnt ≤ k ∧ Maps.IsMap D ∧ (∀ t : Int, Maps.has D (.int .i64 t) = true ↔ goalP (f.ins.take k) t) ∧ Kp w wr) (fun x _ => f.ins.length - (intOf x).toNat)
  case atStart => exact ⟨0, 0, .map [], Nat.zero_le _, rfl, HM0.out, Nat.le_refl _, map_nil, (fun t => by simp [Maps.has, goalP]), HK1.out⟩
  case round =>
    obtain ⟨k, cnt, D, hk, rfl, hm, hc, hD, hh, hkr⟩ := hrel
    have HM := hid hm; have HC := hid hc; have HD := hid hD; have HH := hid hh; have HKR := hid hkr
    by_cases hlt : k < f.ins.length
    · have i1 : (k : Int) < (f.ins.length : Int) := by omega
      have k1 : IntKind.i64.wrap ((k : Int) + 1) = (k : Int) + 1 := IntWalk.i64_in _ (by omega)
      obtain ⟨i, hi⟩ : ∃ i, f.ins[k]? = some i := ⟨_, List.getElem?_eq_getElem hlt⟩
      obtain ⟨b, off, rfl, hb, g0, g1, g2, g3, g4, g5, hoks⟩ := at_ins (H.out.kp CeIns.kp hkr) hi
      have HI := hid hi
      have HOK := hid (show CeIns wr [.int .i64 i.op, .int .i64 i.a, .int .i64 i.b, .int .i64 i.c, .int .i64 i.d, .int .i64 i.e] i from ⟨rfl, hoks⟩)
      have htg := fun w' => target_any w' i
      unfold tgtV at htg
      have HBX := hid (blk_new wr (.cells #[.int .i64 i.op, .int .i64 i.a, .int .i64 i.b, .int .i64 i.c, .int .i64 i.d, .int .i64 i.e] 64))
      clear hm hc hD hh hkr hi hoks
      cases ht : targetM i with
      | none =>
        rw [ht] at htg
        have HT := hid ht
        clear ht
        unfold insV at htg
        go_wp2_with (go_at_call 58; refine (htg _).mono ?_; rintro e w2 ⟨rfl, hk2⟩; have HK2 := hid (((Kp.refl wr).alloc (.cells #[.int .i64 i.op, .int .i64 i.a, .int .i64 i.b, .int .i64 i.c, .int .i64 i.d, .int .i64 i.e] 64)).trans hk2); clear hk2)
        exact ⟨⟨k + 1, cnt, D, hlt, by congr 1, map_kp HM.out HK2.out, Nat.le_succ_of_le HC.out, HD.out, (fun t => by rw [goal_take HI.out, HT.out]; simp [HH.out t]), HKR.out.trans HK2.out⟩, by simp only [intOf, Int.toNat_natCast]; omega⟩
      | some t0 =>
        rw [ht] at htg
        have HT := hid ht
        have hkey := key_ok (okI_target HOK.out ht)
        have hcn : cnt < maxLen := by have := HC.out; unfold maxLen; omega
        clear ht
        unfold insV at htg
        go_wp2_with first | (go_at_call 58; refine (htg _).mono ?_; rintro e w2 ⟨rfl, hk2⟩; have HK2 := hid (((Kp.refl wr).alloc (.cells #[.int .i64 i.op, .int .i64 i.a, .int .i64 i.b, .int .i64 i.c, .int .i64 i.d, .int .i64 i.e] 64)).trans hk2); have HM2 := hid (map_kp HM.out HK2.out); clear hk2) | (at_mapUpdate; go_must (refine wpList_mapUpdate_in _ rfl _ _ _ 82 rfl 3 109 keyInt Try.underlying82 unitElem B cnt D rfl HM2.out hcn _ _ _ rfl rfl hkey (.agg []) [] unitElem_mk ?_); intro w3 hown3 hturn3; have HO3 := hid hown3; have HK3 := hid (Below.one (HKR.out.trans HK2.out) hturn3.grown HNB.out (HKR.out.trans HK2.out).le); clear hown3 hturn3)
        exact ⟨⟨k + 1, cnt + 1, _, hlt, by congr 1, HO3.out, Nat.succ_le_succ HC.out, Maps.IsMap.put HD.out _ _, (fun t => by
          rw [goal_take HI.out, HT.out]
          by_cases he : t = t0
          · subst he; rw [has_put_same HD.out (show WideAt.IsKeyLit (Lit.int .i64 t) from trivial)]; simp
          · rw [has_put_other (by intro e; injection e with _ e; exact he e), HH.out t]
            constructor
            · exact .inl
            · rintro (h | h)
              · exact h
              · injection h with h; exact absurd h.symm he), HK3.out⟩, by simp only [intOf, Int.toNat_natCast]; omega⟩
    · have i1 : ¬ (k : Int) < (f.ins.length : Int) := by omega
      obtain rfl : k = f.ins.length := by omega
      have HGM := hid (show GoalMap wr B f.ins from ⟨cnt, D, HM.out, HC.out, HD.out, fun t => by have := HH.out t; rw [List.take_length] at this; exact this⟩)
      clear hm hc hD hh hkr
      go_wp2
      go_ret
      exact ⟨⟨_, rfl, HGM.out⟩, HKR.out⟩

set_option maxRecDepth 20000 in
set_option maxHeartbeats 8000000 in
theorem right_any (w : World) (f : FnM) (A : Option Addr) (c : Nat) (h : RdL CeIns 6 w (.slice A f.ins.length c) f.ins) (hl : f.ins.length ≤ 2000000) (p : Nat) (i : InsM) (hi : f.ins[p]? = some i) (B : Nat) (hm : GoalMap w B f.ins) (r : Bool) (hr : r = true ↔ RightP f.ins p i) :
    Calls Try.prog 38 #[.agg #[.string f.name, .int .i64 f.params, .int .i64 f.slots, .int .i64 f.caps, .slice A f.ins.length c], .int .i64 (p : Int), .map (some B)] w fun e w' => e = .returned (.bool r) ∧ Kp w w' := by
  obtain ⟨b0, off0, e0, _⟩ := at_ins h hi
  subst e0
  have H := hid h; have HI := hid hi; have HR := hid hr
  have hpl : p < f.ins.length := (List.getElem?_eq_some_iff.1 hi).1
  obtain ⟨b0', off0', e0, hb0, g0, g1, g2, g3, g4, g5, _⟩ := at_ins (h.kp CeIns.kp ((Kp.refl w).alloc (.cells #[.string f.name, .int .i64 f.params, .int .i64 f.slots, .int .i64 f.caps, .slice (some ⟨b0, off0, none⟩) f.ins.length c] 45))) hi
  injection e0 with e0
  injection e0 with e0 e0'
  subst e0; subst e0'
  have HK0 := hid ((Kp.refl w).alloc (.cells #[.string f.name, .int .i64 f.params, .int .i64 f.slots, .int .i64 f.caps, .slice (some ⟨b0, off0, none⟩) f.ins.length c] 45))
  have HB0 := hid (blk_new w (.cells #[.string f.name, .int .i64 f.params, .int .i64 f.slots, .int .i64 f.caps, .slice (some ⟨b0, off0, none⟩) f.ins.length c] 45))
  have i0 : (0 : Int) ≤ (p : Int) := by omega
  have i1 : (p : Int) < (f.ins.length : Int) := by omega
  have haf := fun w' => After_any w' i.op
  have hnd := fun w' => Need_any w' i
  obtain ⟨a, ha⟩ : ∃ a, afterM i.op = a := ⟨_, rfl⟩
  rw [ha] at haf
  have HA := hid ha
  have HGM := hid hm
  clear h hi hr ha hm
  go_enter Try.func38, Try.ntmps38
  go_upto_region 1 with fail
  generalize (w.alloc (.cells #[.string f.name, .int .i64 f.params, .int .i64 f.slots, .int .i64 f.caps, .slice (some ⟨b0, off0, none⟩) f.ins.length c] 45)) = W0 at HK0 HB0 g0 g1 g2 g3 g4 g5 hb0 ⊢
  generalize w.heap.size = n0 at HB0 ⊢
  have z4 := blk_cell (o := 4) (v := .slice (some ⟨b0, off0, none⟩) f.ins.length c) HB0.out rfl
  have zl := blk_lt HB0.out
  go_upto_region 3 with (go_at_call 59; refine (haf _).mono ?_; rintro e w2 ⟨rfl, hk2⟩; have HK2 := hid ((HK0.out.alloc (.cells #[.int .i64 i.op, .int .i64 i.a, .int .i64 i.b, .int .i64 i.c, .int .i64 i.d, .int .i64 i.e] 64)).trans hk2); have HB2 := hid ((hk2.block _ (blk_lt (blk_old HB0.out (.cells #[.int .i64 i.op, .int .i64 i.a, .int .i64 i.b, .int .i64 i.c, .int .i64 i.d, .int .i64 i.e] 64)))).trans (blk_old HB0.out (.cells #[.int .i64 i.op, .int .i64 i.a, .int .i64 i.b, .int .i64 i.c, .int .i64 i.d, .int .i64 i.e] 64))); have HBI := hid ((hk2.block _ (blk_lt (blk_new W0 (.cells #[.int .i64 i.op, .int .i64 i.a, .int .i64 i.b, .int .i64 i.c, .int .i64 i.d, .int .i64 i.e] 64)))).trans (blk_new W0 (.cells #[.int .i64 i.op, .int .i64 i.a, .int .i64 i.b, .int .i64 i.c, .int .i64 i.d, .int .i64 i.e] 64))); clear hk2)
  clear z4 zl g0 g1 g2 g3 g4 g5 hb0 haf
  generalize W0.heap.size = n1 at HBI ⊢
  have z4 := blk_cell (o := 4) (v := .slice (some ⟨b0, off0, none⟩) f.ins.length c) HB2.out rfl
  have zl := blk_lt HB2.out
  obtain ⟨⟨u0, u1, u2, u3, u4, u5⟩, _⟩ := boxed6 _ _ _ _ _ _ _ _ HBI.out
  have ul := blk_lt HBI.out
  have k1 : IntKind.i64.wrap ((p : Int) + 1) = (p : Int) + 1 := IntWalk.i64_in _ (by omega)
  by_cases h0 : a = 0
  · have t0 : (a == 0) = true := by simp [h0]
    have t0' : (a != 0) = false := by simp [h0]
    have HAF := hid (show afterM i.op ≠ 0 → ∃ j, f.ins[p + 1]? = some j ∧ j.op = afterM i.op from fun h => absurd (HA.out.trans h0) h)
    clear h0
    go_upto_region 5 with fail
    clear z4 zl
    by_cases hd : (needM i).d = 0
    · have HR1 := hid (show r = true from HR.out.2 ⟨HAF.out, fun h => absurd hd h⟩)
      have hnv : needV i = .tuple #[insV ⟨0, 0, 0, 0, 0, 0⟩, .bool false] := by unfold needV; rw [if_pos hd]
      rw [hnv] at hnd
      clear hnv hd
      unfold insV at hnd
      go_wp2_with (go_at_call 60; refine (hnd _).mono ?_; rintro e w3 ⟨rfl, hk3⟩; have HK3 := hid (HK2.out.trans hk3); have HB3 := hid ((hk3.block _ (blk_lt HB2.out)).trans HB2.out); clear hk3)
      go_ret
      exact ⟨ret_bool HR1.out.symm, HK3.out.alloc _⟩
    · have hnv : needV i = .tuple #[insV (needM i), .bool true] := by unfold needV; rw [if_neg hd]
      rw [hnv] at hnd
      have HN := hid hd
      clear hnv hd
      obtain ⟨n, hn⟩ : ∃ n, needM i = n := ⟨_, rfl⟩
      have HNE := hid hn
      rw [hn] at hnd
      clear hn
      unfold insV at hnd
      go_upto_region 8 with (go_at_call 60; refine (hnd _).mono ?_; rintro e w3 ⟨rfl, hk3⟩; have HK3 := hid (HK2.out.trans hk3); have HB3 := hid ((hk3.block _ (blk_lt HB2.out)).trans HB2.out); clear hk3)
      have HBN := hid (blk_new w3 (.cells #[.int .i64 n.op, .int .i64 n.a, .int .i64 n.b, .int .i64 n.c, .int .i64 n.d, .int .i64 n.e] 64))
      have HB4 := hid (blk_old HB3.out (.cells #[.int .i64 n.op, .int .i64 n.a, .int .i64 n.b, .int .i64 n.c, .int .i64 n.d, .int .i64 n.e] 64))
      have HK4 := hid (HK3.out.alloc (.cells #[.int .i64 n.op, .int .i64 n.a, .int .i64 n.b, .int .i64 n.c, .int .i64 n.d, .int .i64 n.e] 64))
      generalize (w3.alloc (.cells #[.int .i64 n.op, .int .i64 n.a, .int .i64 n.b, .int .i64 n.c, .int .i64 n.d, .int .i64 n.e] 64)) = W4 at HBN HB4 HK4 ⊢
      generalize w3.heap.size = n3 at HBN ⊢
      have z4 := blk_cell (o := 4) (v := .slice (some ⟨b0, off0, none⟩) f.ins.length c) HB4.out rfl
      have zl := blk_lt HB4.out
      by_cases h2 : p < 2
      · have i2 : (p : Int) < 2 := by omega
        have HR1 := hid (show r = false from Bool.eq_false_iff.2 fun h => by have := ((HR.out.1 h).2 HN.out).1; omega)
        go_quiet (fail)
        go_wp2
        go_ret
        exact ⟨ret_bool HR1.out.symm, by first | exact HK4.out.drewN _ | exact HK4.out⟩
      · have i2 : ¬ (p : Int) < 2 := by omega
        obtain ⟨p1, hp1⟩ : ∃ p1 : Nat, p1 = p - 1 := ⟨_, rfl⟩
        obtain ⟨p2, hp2⟩ : ∃ p2 : Nat, p2 = p - 2 := ⟨_, rfl⟩
        have w1 : IntKind.i64.wrap ((p : Int) - 1) = (p1 : Int) := by rw [IntWalk.i64_in _ (by omega)]; omega
        have w2' : IntKind.i64.wrap ((p : Int) - 2) = (p2 : Int) := by rw [IntWalk.i64_in _ (by omega)]; omega
        have j1 : (0 : Int) ≤ (p1 : Int) := by omega
        have j2 : (p1 : Int) < (f.ins.length : Int) := by omega
        have j3 : (0 : Int) ≤ (p2 : Int) := by omega
        have j4 : (p2 : Int) < (f.ins.length : Int) := by omega
        obtain ⟨x1, hx1⟩ : ∃ x, f.ins[p1]? = some x := ⟨_, List.getElem?_eq_getElem (by omega)⟩
        obtain ⟨x2, hx2⟩ : ∃ x, f.ins[p2]? = some x := ⟨_, List.getElem?_eq_getElem (by omega)⟩
        obtain ⟨b1, off1, e1, hb1, q0, _⟩ := at_ins (H.out.kp CeIns.kp HK4.out) hx1
        obtain ⟨b2, off2, e2, hb2, r0, r1, r2, r3, r4, r5, _⟩ := at_ins (H.out.kp CeIns.kp HK4.out) hx2
        injection e1 with e1
        injection e1 with e1 e1'
        subst e1; subst e1'
        injection e2 with e2
        injection e2 with e2 e2'
        subst e2; subst e2'
        obtain ⟨⟨y0, y1, y2, y3, y4, y5⟩, _⟩ := boxed6 _ _ _ _ _ _ _ _ HBN.out
        have yl := blk_lt HBN.out
        have HX1 := hid (show f.ins[p - 1]? = some x1 by rw [← hp1]; exact hx1)
        have HX2 := hid (show f.ins[p - 2]? = some x2 by rw [← hp2]; exact hx2)
        have HP1 := hid (show ((p1 : Nat) : Int) = (p : Int) - 1 by omega)
        clear hx1 hx2 hp1 hp2
        by_cases h25 : x1.op = 25
        · have t25 : (x1.op == 25) = true := by simp [h25]
          have t25' : (x1.op != 25) = false := by simp [h25]
          have H25 := hid h25
          clear h25
          by_cases hxn : x2 = n
          · have hnn := fun w' => ne_ins n.op n.a n.b n.c n.d n.e w'
            obtain ⟨cnt, D, hm1, hm2, hm3, hm4⟩ := HGM.out
            have hkp := key_ok (t := (p : Int)) ⟨by omega, by omega⟩
            have hkq := key_ok (t := (p1 : Int)) ⟨by omega, by omega⟩
            subst hxn
            have HRR := hid (show (!Maps.has D (.int .i64 (p : Int)) && !Maps.has D (.int .i64 (p1 : Int))) = r by
              have e1 : Maps.has D (.int .i64 (p : Int)) = true ↔ goalP f.ins (p : Int) := hm4 _
              have e2 : Maps.has D (.int .i64 (p1 : Int)) = true ↔ goalP f.ins ((p : Int) - 1) := by rw [← HP1.out]; exact hm4 _
              have hr := HR.out
              cases ha : Maps.has D (.int .i64 (p : Int)) <;> cases hb : Maps.has D (.int .i64 (p1 : Int)) <;> rw [ha] at e1 <;> rw [hb] at e2
              · show true = r
                exact (hr.2 ⟨HAF.out, fun _ => ⟨by omega, ⟨x1, HX1.out, H25.out⟩, by rw [HNE.out]; exact HX2.out, fun h => (by have := e1.2 h; cases this), fun h => (by have := e2.2 h; cases this)⟩⟩).symm
              · show false = r
                exact (Bool.eq_false_iff.2 fun h => ((hr.1 h).2 HN.out).2.2.2.2 (e2.1 rfl)).symm
              · show false = r
                exact (Bool.eq_false_iff.2 fun h => ((hr.1 h).2 HN.out).2.2.2.1 (e1.1 rfl)).symm
              · show false = r
                exact (Bool.eq_false_iff.2 fun h => ((hr.1 h).2 HN.out).2.2.2.1 (e1.1 rfl)).symm)
            have HD := hid hm1
            clear hm1 hm2 hm3 hm4
            cases hb : Maps.has D (.int .i64 (p : Int)) with
            | false =>
              have HRQ := hid (show (!Maps.has D (.int .i64 (p1 : Int))) = r by have := HRR.out; rw [hb] at this; exact this)
              go_quiet (fail)
              go_wp2_with first | (at_lookup; (refine wpList_lookup_own_unit _ rfl _ _ 82 rfl 3 109 keyInt Try.underlying82 (zeroUnit _) B cnt D rfl (by first | exact map_kp HD.out (HK4.out.drewN _) | exact map_kp HD.out ((HK4.out.drewN _).alloc _)) _ _ rfl hkp ?_)) | (at_lookup; (refine wpList_lookup_own_unit _ rfl _ _ 82 rfl 3 109 keyInt Try.underlying82 (zeroUnit _) B cnt D rfl (by first | exact map_kp HD.out (HK4.out.drewN _) | exact map_kp HD.out ((HK4.out.drewN _).alloc _)) _ _ rfl hkq ?_))
              go_ret
              exact ⟨ret_bool HRQ.out, ((HK4.out.drewN _).alloc _).alloc _⟩
            | true =>
              have HRQ := hid (show false = r by have := HRR.out; rw [hb] at this; exact this)
              go_quiet (fail)
              go_wp2_with first | (at_lookup; (refine wpList_lookup_own_unit _ rfl _ _ 82 rfl 3 109 keyInt Try.underlying82 (zeroUnit _) B cnt D rfl (by first | exact map_kp HD.out (HK4.out.drewN _) | exact map_kp HD.out ((HK4.out.drewN _).alloc _)) _ _ rfl hkp ?_)) | (at_lookup; (refine wpList_lookup_own_unit _ rfl _ _ 82 rfl 3 109 keyInt Try.underlying82 (zeroUnit _) B cnt D rfl (by first | exact map_kp HD.out (HK4.out.drewN _) | exact map_kp HD.out ((HK4.out.drewN _).alloc _)) _ _ rfl hkq ?_))
              go_ret
              exact ⟨ret_bool HRQ.out, ((HK4.out.drewN _).alloc _).alloc _⟩
          · have hnn := fun w' => ne_ins_no x2 n hxn w'
            have HR1 := hid (show r = false from Bool.eq_false_iff.2 fun h => by
              have := ((HR.out.1 h).2 HN.out).2.2.1
              rw [HNE.out, HX2.out] at this
              injection this with this
              exact hxn this)
            clear hxn
            go_quiet (fail)
            go_wp2
            go_ret
            exact ⟨ret_bool HR1.out.symm, by first | exact HK4.out.drewN _ | exact HK4.out⟩
        · have t25 : (x1.op == 25) = false := by simp [h25]
          have t25' : (x1.op != 25) = true := by simp [h25]
          have HR1 := hid (show r = false from Bool.eq_false_iff.2 fun h => by
            obtain ⟨x, h1, h2⟩ := ((HR.out.1 h).2 HN.out).2.1
            rw [HX1.out] at h1
            injection h1 with h1
            rw [← h1] at h2
            exact h25 h2)
          clear h25
          go_quiet (fail)
          go_wp2
          go_ret
          exact ⟨ret_bool HR1.out.symm, by first | exact HK4.out.drewN _ | exact HK4.out⟩
  · have t0 : (a == 0) = false := by simp [h0]
    have t0' : (a != 0) = true := by simp [h0]
    by_cases hp1 : p + 1 < f.ins.length
    · have i2 : ¬ (f.ins.length : Int) ≤ (p : Int) + 1 := by omega
      have i3 : (p : Int) + 1 < (f.ins.length : Int) := by omega
      have i4 : (0 : Int) ≤ (p : Int) + 1 := by omega
      have i5 : ((p : Int) + 1).toNat = p + 1 := by omega
      obtain ⟨j, hj⟩ : ∃ j, f.ins[p + 1]? = some j := ⟨_, List.getElem?_eq_getElem hp1⟩
      obtain ⟨b9, off9, e9, hb9, v0, _⟩ := at_ins (H.out.kp CeIns.kp HK2.out) hj
      injection e9 with e9
      injection e9 with e9 e9'
      subst e9; subst e9'
      have HJ := hid hj
      clear hj
      by_cases hja : j.op = a
      · have t1 : (j.op == a) = true := by simp [hja]
        have t1' : (j.op != a) = false := by simp [hja]
        have HAF := hid (show afterM i.op ≠ 0 → ∃ j, f.ins[p + 1]? = some j ∧ j.op = afterM i.op from fun _ => ⟨j, HJ.out, hja.trans HA.out.symm⟩)
        clear h0 hja
        go_upto_region 5 with fail
        clear z4 zl v0 hb9 i2 i3 i4 i5
        by_cases hd : (needM i).d = 0
        · have HR1 := hid (show r = true from HR.out.2 ⟨HAF.out, fun h => absurd hd h⟩)
          have hnv : needV i = .tuple #[insV ⟨0, 0, 0, 0, 0, 0⟩, .bool false] := by unfold needV; rw [if_pos hd]
          rw [hnv] at hnd
          clear hnv hd
          unfold insV at hnd
          go_wp2_with (go_at_call 60; refine (hnd _).mono ?_; rintro e w3 ⟨rfl, hk3⟩; have HK3 := hid (HK2.out.trans hk3); have HB3 := hid ((hk3.block _ (blk_lt HB2.out)).trans HB2.out); clear hk3)
          go_ret
          exact ⟨ret_bool HR1.out.symm, HK3.out.alloc _⟩
        · have hnv : needV i = .tuple #[insV (needM i), .bool true] := by unfold needV; rw [if_neg hd]
          rw [hnv] at hnd
          have HN := hid hd
          clear hnv hd
          obtain ⟨n, hn⟩ : ∃ n, needM i = n := ⟨_, rfl⟩
          have HNE := hid hn
          rw [hn] at hnd
          clear hn
          unfold insV at hnd
          go_upto_region 8 with (go_at_call 60; refine (hnd _).mono ?_; rintro e w3 ⟨rfl, hk3⟩; have HK3 := hid (HK2.out.trans hk3); have HB3 := hid ((hk3.block _ (blk_lt HB2.out)).trans HB2.out); clear hk3)
          have HBN := hid (blk_new w3 (.cells #[.int .i64 n.op, .int .i64 n.a, .int .i64 n.b, .int .i64 n.c, .int .i64 n.d, .int .i64 n.e] 64))
          have HB4 := hid (blk_old HB3.out (.cells #[.int .i64 n.op, .int .i64 n.a, .int .i64 n.b, .int .i64 n.c, .int .i64 n.d, .int .i64 n.e] 64))
          have HK4 := hid (HK3.out.alloc (.cells #[.int .i64 n.op, .int .i64 n.a, .int .i64 n.b, .int .i64 n.c, .int .i64 n.d, .int .i64 n.e] 64))
          generalize (w3.alloc (.cells #[.int .i64 n.op, .int .i64 n.a, .int .i64 n.b, .int .i64 n.c, .int .i64 n.d, .int .i64 n.e] 64)) = W4 at HBN HB4 HK4 ⊢
          generalize w3.heap.size = n3 at HBN ⊢
          have z4 := blk_cell (o := 4) (v := .slice (some ⟨b0, off0, none⟩) f.ins.length c) HB4.out rfl
          have zl := blk_lt HB4.out
          by_cases h2 : p < 2
          · have i2 : (p : Int) < 2 := by omega
            have HR1 := hid (show r = false from Bool.eq_false_iff.2 fun h => by have := ((HR.out.1 h).2 HN.out).1; omega)
            go_quiet (fail)
            go_wp2
            go_ret
            exact ⟨ret_bool HR1.out.symm, by first | exact HK4.out.drewN _ | exact HK4.out⟩
          · have i2 : ¬ (p : Int) < 2 := by omega
            obtain ⟨p1, hp1⟩ : ∃ p1 : Nat, p1 = p - 1 := ⟨_, rfl⟩
            obtain ⟨p2, hp2⟩ : ∃ p2 : Nat, p2 = p - 2 := ⟨_, rfl⟩
            have w1 : IntKind.i64.wrap ((p : Int) - 1) = (p1 : Int) := by rw [IntWalk.i64_in _ (by omega)]; omega
            have w2' : IntKind.i64.wrap ((p : Int) - 2) = (p2 : Int) := by rw [IntWalk.i64_in _ (by omega)]; omega
            have j1 : (0 : Int) ≤ (p1 : Int) := by omega
            have j2 : (p1 : Int) < (f.ins.length : Int) := by omega
            have j3 : (0 : Int) ≤ (p2 : Int) := by omega
            have j4 : (p2 : Int) < (f.ins.length : Int) := by omega
            obtain ⟨x1, hx1⟩ : ∃ x, f.ins[p1]? = some x := ⟨_, List.getElem?_eq_getElem (by omega)⟩
            obtain ⟨x2, hx2⟩ : ∃ x, f.ins[p2]? = some x := ⟨_, List.getElem?_eq_getElem (by omega)⟩
            obtain ⟨b1, off1, e1, hb1, q0, _⟩ := at_ins (H.out.kp CeIns.kp HK4.out) hx1
            obtain ⟨b2, off2, e2, hb2, r0, r1, r2, r3, r4, r5, _⟩ := at_ins (H.out.kp CeIns.kp HK4.out) hx2
            injection e1 with e1
            injection e1 with e1 e1'
            subst e1; subst e1'
            injection e2 with e2
            injection e2 with e2 e2'
            subst e2; subst e2'
            obtain ⟨⟨y0, y1, y2, y3, y4, y5⟩, _⟩ := boxed6 _ _ _ _ _ _ _ _ HBN.out
            have yl := blk_lt HBN.out
            have HX1 := hid (show f.ins[p - 1]? = some x1 by rw [← hp1]; exact hx1)
            have HX2 := hid (show f.ins[p - 2]? = some x2 by rw [← hp2]; exact hx2)
            have HP1 := hid (show ((p1 : Nat) : Int) = (p : Int) - 1 by omega)
            clear hx1 hx2 hp1 hp2
            by_cases h25 : x1.op = 25
            · have t25 : (x1.op == 25) = true := by simp [h25]
              have t25' : (x1.op != 25) = false := by simp [h25]
              have H25 := hid h25
              clear h25
              by_cases hxn : x2 = n
              · have hnn := fun w' => ne_ins n.op n.a n.b n.c n.d n.e w'
                obtain ⟨cnt, D, hm1, hm2, hm3, hm4⟩ := HGM.out
                have hkp := key_ok (t := (p : Int)) ⟨by omega, by omega⟩
                have hkq := key_ok (t := (p1 : Int)) ⟨by omega, by omega⟩
                subst hxn
                have HRR := hid (show (!Maps.has D (.int .i64 (p : Int)) && !Maps.has D (.int .i64 (p1 : Int))) = r by
                  have e1 : Maps.has D (.int .i64 (p : Int)) = true ↔ goalP f.ins (p : Int) := hm4 _
                  have e2 : Maps.has D (.int .i64 (p1 : Int)) = true ↔ goalP f.ins ((p : Int) - 1) := by rw [← HP1.out]; exact hm4 _
                  have hr := HR.out
                  cases ha : Maps.has D (.int .i64 (p : Int)) <;> cases hb : Maps.has D (.int .i64 (p1 : Int)) <;> rw [ha] at e1 <;> rw [hb] at e2
                  · show true = r
                    exact (hr.2 ⟨HAF.out, fun _ => ⟨by omega, ⟨x1, HX1.out, H25.out⟩, by rw [HNE.out]; exact HX2.out, fun h => (by have := e1.2 h; cases this), fun h => (by have := e2.2 h; cases this)⟩⟩).symm
                  · show false = r
                    exact (Bool.eq_false_iff.2 fun h => ((hr.1 h).2 HN.out).2.2.2.2 (e2.1 rfl)).symm
                  · show false = r
                    exact (Bool.eq_false_iff.2 fun h => ((hr.1 h).2 HN.out).2.2.2.1 (e1.1 rfl)).symm
                  · show false = r
                    exact (Bool.eq_false_iff.2 fun h => ((hr.1 h).2 HN.out).2.2.2.1 (e1.1 rfl)).symm)
                have HD := hid hm1
                clear hm1 hm2 hm3 hm4
                cases hb : Maps.has D (.int .i64 (p : Int)) with
                | false =>
                  have HRQ := hid (show (!Maps.has D (.int .i64 (p1 : Int))) = r by have := HRR.out; rw [hb] at this; exact this)
                  go_quiet (fail)
                  go_wp2_with first | (at_lookup; (refine wpList_lookup_own_unit _ rfl _ _ 82 rfl 3 109 keyInt Try.underlying82 (zeroUnit _) B cnt D rfl (by first | exact map_kp HD.out (HK4.out.drewN _) | exact map_kp HD.out ((HK4.out.drewN _).alloc _)) _ _ rfl hkp ?_)) | (at_lookup; (refine wpList_lookup_own_unit _ rfl _ _ 82 rfl 3 109 keyInt Try.underlying82 (zeroUnit _) B cnt D rfl (by first | exact map_kp HD.out (HK4.out.drewN _) | exact map_kp HD.out ((HK4.out.drewN _).alloc _)) _ _ rfl hkq ?_))
                  go_ret
                  exact ⟨ret_bool HRQ.out, ((HK4.out.drewN _).alloc _).alloc _⟩
                | true =>
                  have HRQ := hid (show false = r by have := HRR.out; rw [hb] at this; exact this)
                  go_quiet (fail)
                  go_wp2_with first | (at_lookup; (refine wpList_lookup_own_unit _ rfl _ _ 82 rfl 3 109 keyInt Try.underlying82 (zeroUnit _) B cnt D rfl (by first | exact map_kp HD.out (HK4.out.drewN _) | exact map_kp HD.out ((HK4.out.drewN _).alloc _)) _ _ rfl hkp ?_)) | (at_lookup; (refine wpList_lookup_own_unit _ rfl _ _ 82 rfl 3 109 keyInt Try.underlying82 (zeroUnit _) B cnt D rfl (by first | exact map_kp HD.out (HK4.out.drewN _) | exact map_kp HD.out ((HK4.out.drewN _).alloc _)) _ _ rfl hkq ?_))
                  go_ret
                  exact ⟨ret_bool HRQ.out, ((HK4.out.drewN _).alloc _).alloc _⟩
              · have hnn := fun w' => ne_ins_no x2 n hxn w'
                have HR1 := hid (show r = false from Bool.eq_false_iff.2 fun h => by
                  have := ((HR.out.1 h).2 HN.out).2.2.1
                  rw [HNE.out, HX2.out] at this
                  injection this with this
                  exact hxn this)
                clear hxn
                go_quiet (fail)
                go_wp2
                go_ret
                exact ⟨ret_bool HR1.out.symm, by first | exact HK4.out.drewN _ | exact HK4.out⟩
            · have t25 : (x1.op == 25) = false := by simp [h25]
              have t25' : (x1.op != 25) = true := by simp [h25]
              have HR1 := hid (show r = false from Bool.eq_false_iff.2 fun h => by
                obtain ⟨x, h1, h2⟩ := ((HR.out.1 h).2 HN.out).2.1
                rw [HX1.out] at h1
                injection h1 with h1
                rw [← h1] at h2
                exact h25 h2)
              clear h25
              go_quiet (fail)
              go_wp2
              go_ret
              exact ⟨ret_bool HR1.out.symm, by first | exact HK4.out.drewN _ | exact HK4.out⟩
      · have t1 : (j.op == a) = false := by simp [hja]
        have t1' : (j.op != a) = true := by simp [hja]
        have HR1 := hid (show r = false from Bool.eq_false_iff.2 fun h => by
          obtain ⟨x, h1, h2⟩ := (HR.out.1 h).1 (by rw [HA.out]; exact h0)
          rw [HJ.out] at h1
          injection h1 with h1
          rw [← h1, HA.out] at h2
          exact hja h2)
        clear h0 hja
        go_wp2
        go_ret
        exact ⟨ret_bool HR1.out.symm, HK2.out⟩
    · have i2 : (f.ins.length : Int) ≤ (p : Int) + 1 := by omega
      have HR1 := hid (show r = false from Bool.eq_false_iff.2 fun h => by
        obtain ⟨x, h1, _⟩ := (HR.out.1 h).1 (by rw [HA.out]; exact h0)
        have := (List.getElem?_eq_some_iff.1 h1).1
        omega)
      clear h0
      go_wp2
      go_ret
      exact ⟨ret_bool HR1.out.symm, HK2.out⟩

end Go.Proofs.Ytgonekmmbeedeaa.Sq
