/-
  Package squeeze: once, slices.Equal of instructions, Squeeze. Condition: the code lies within the reach.
-/
import Derived.Test.YtgonekmmbeedeaaSqK
import Derived.Test.YtgonekmmbeedeaaSoundS
namespace Go.Proofs.Ytgonekmmbeedeaa.Sq
open Go.RowKit
set_option linter.unusedVariables false
set_option linter.unusedSimpArgs false

theorem ne_ins_no (i j : InsM) (h : i ≠ j) (w : World) : Sem.run Try.prog (binOp .neq 64 (.agg #[.int .i64 i.op, .int .i64 i.a, .int .i64 i.b, .int .i64 i.c, .int .i64 i.d, .int .i64 i.e]) (.agg #[.int .i64 j.op, .int .i64 j.a, .int .i64 j.b, .int .i64 j.c, .int .i64 j.d, .int .i64 j.e])) w = .ok (.bool true) w := by
  have hne : ¬ (i.op = j.op ∧ i.a = j.a ∧ i.b = j.b ∧ i.c = j.c ∧ i.d = j.d ∧ i.e = j.e) := by
    obtain ⟨a0, a1, a2, a3, a4, a5⟩ := i
    obtain ⟨b0, b1, b2, b3, b4, b5⟩ := j
    rintro ⟨e0, e1, e2, e3, e4, e5⟩
    simp only at e0 e1 e2 e3 e4 e5
    subst e0 e1 e2 e3 e4 e5
    exact h rfl
  simp [go_sem]
  intro h0 h1 h2 h3 h4 h5
  exact hne ⟨h0, h1, h2, h3, h4, h5⟩
theorem same_take {l m : List InsM} {k : Nat} {i j : InsM} (h : l.take k = m.take k) (hi : l[k]? = some i) (hj : m[k]? = some j) (e : i = j) : l.take (k + 1) = m.take (k + 1) := by
  rw [← take_snoc hi, ← take_snoc hj, h, e]
set_option maxRecDepth 20000 in
set_option maxHeartbeats 4000000 in
theorem equal_ins (va vb : Value) (l m : List InsM) (w : World) (ha : RdL CeIns 6 w va l) (hb : RdL CeIns 6 w vb m) (hll : l.length ≤ 2000000) (hlm : m.length ≤ 2000000) (r : Bool) (hr : r = true ↔ l = m) : Calls Try.prog 33 #[va, vb] w fun e w' => e = .returned (.bool r) ∧ Kp w w' := by
  obtain ⟨A, c, rfl, hc1⟩ := ha.form
  obtain ⟨B, d, rfl, hc2⟩ := hb.form
  have HA := hid ha; have HB := hid hb; have HR := hid hr
  clear ha hb hr
  by_cases hlen : l.length = m.length
  · have hL : ((l.length : Int) == (m.length : Int)) = true := by simp [hlen]
    have hL' : ((l.length : Int) != (m.length : Int)) = false := by simp [hlen]
    have HL := hid hlen
    clear hlen
    go_enter Try.func33, Try.ntmps33
    go_wp2
    go_loopw [13] (fun i wr => ∃ k n : Nat, k ≤ l.length ∧ i = .int .i64 k ∧ wr = w.drewN n ∧ l.take k = m.take k) (fun i _ => l.length - (intOf i).toNat)
    case atStart => exact ⟨0, 0, by omega, rfl, rfl, rfl⟩
    case round =>
      obtain ⟨k, n, hk, rfl, rfl, htk⟩ := hrel
      have HT := hid htk
      clear htk
      by_cases hlt : k < l.length
      · have hlt2 : k < m.length := by have := HL.out; omega
        obtain ⟨i, hi⟩ : ∃ i, l[k]? = some i := ⟨_, List.getElem?_eq_getElem hlt⟩
        obtain ⟨j, hj⟩ : ∃ j, m[k]? = some j := ⟨_, List.getElem?_eq_getElem hlt2⟩
        obtain ⟨b, off, rfl, hbl, g0, g1, g2, g3, g4, g5, _⟩ := at_ins HA.out hi
        obtain ⟨b', off', rfl, hbl', f0, f1, f2, f3, f4, f5, _⟩ := at_ins HB.out hj
        have HI := hid hi; have HJ := hid hj
        have i1 : (k : Int) < (l.length : Int) := by omega
        have i2 : (k : Int) < (m.length : Int) := by omega
        have k1 : IntKind.i64.wrap ((k : Int) + 1) = (k : Int) + 1 := IntWalk.i64_in _ (by omega)
        clear hi hj
        by_cases hij : i = j
        · have hnn := fun w' => ne_ins i.op i.a i.b i.c i.d i.e w'
          subst hij
          go_wp2
          go_quiet (fail)
          go_wp2
          go_roundw
          case rel => exact ⟨k + 1, _, by omega, by simp, rfl, same_take HT.out HI.out HJ.out rfl⟩
          case measure => simp [intOf]; omega
        · have hnn := fun w' => ne_ins_no i j hij w'
          have HN := hid (show r = false by
            cases hx : r with
            | false => rfl
            | true =>
              have e := HR.out.1 hx
              have h1 := HI.out
              rw [e, HJ.out] at h1
              injection h1 with h1
              exact absurd h1.symm hij)
          clear hij
          go_wp2
          go_quiet (fail)
          go_wp2
          go_ret
          exact ⟨ret_bool HN.out.symm, Kp.drewN (Kp.drewN (Kp.refl w) _) _⟩
      · have HN := hid (show r = true from HR.out.2 (by
          have := HT.out
          rw [List.take_of_length_le (by omega), List.take_of_length_le (by have := HL.out; omega)] at this
          exact this))
        go_wp2
        go_ret
        exact ⟨ret_bool HN.out.symm, Kp.drewN (Kp.refl w) _⟩
  · have hL : ((l.length : Int) == (m.length : Int)) = false := by simp; omega
    have hL' : ((l.length : Int) != (m.length : Int)) = true := by simp; omega
    have HN := hid (show r = false by
      cases hx : r with
      | false => rfl
      | true => exact absurd (congrArg List.length (HR.out.1 hx)) hlen)
    clear hlen
    go_enter Try.func33, Try.ntmps33
    go_wp2
    go_ret
    exact ⟨ret_bool HN.out.symm, Kp.refl w⟩
/-! ### once -/
theorem OIns.far {w w' : World} {base g : Nat} {v : Value} {l : List InsM} (h : OIns w base v l) (hg : w.grownBy w' (some g)) (hb : g < base) : OIns w' base v l := ownL_above (fun _ _ h => CeIns.any h) h hg hb
set_option maxRecDepth 20000 in
set_option maxHeartbeats 8000000 in
theorem once_any (w : World) (v : Value) (l : List InsM) (h : RdL CeIns 6 w v l) (hg : GoodL l) (hl : l.length ≤ 2000000) : Calls Try.prog 32 #[v] w fun e w' => (∃ v', e = .returned v' ∧ OIns w' w.heap.size v' (onceM l)) ∧ Kp w w' := by
  obtain ⟨A0, c0, rfl, _⟩ := h.form
  obtain ⟨v, hv⟩ : ∃ v, Value.slice A0 l.length c0 = v := ⟨_, rfl⟩
  have hmf : ∀ (fn : Fn) (first cap : Array Value) (w : World), (Instr.makeFunc fn first cap).run Try.prog w = .ok (.func fn first cap) w := fun _ _ _ _ => rfl
  have H := hid h; have HG := hid hg
  have HG1 := hid (thread_good hg)
  have hl1 : (threadM l).length ≤ 2000000 := by rw [thread_len]; exact hl
  have HS2 := hid (live_ok HG1.out)
  have HG2 := hid (keep_good HS2.out)
  have hl2 : (keepM (threadM l) (liveM (threadM l))).length ≤ 2000000 := Nat.le_trans (keep_le (live_len _)) hl1
  have HS3 := hid (stay_ok HG2.out)
  obtain ⟨n0, hn0⟩ : ∃ n, w.heap.size = n := ⟨_, rfl⟩
  obtain ⟨l1, hl1e⟩ : ∃ l1, threadM l = l1 := ⟨_, rfl⟩
  obtain ⟨S1, hS1e⟩ : ∃ S1, liveM l1 = S1 := ⟨_, rfl⟩
  obtain ⟨l2, hl2e⟩ : ∃ l2, keepM l1 S1 = l2 := ⟨_, rfl⟩
  obtain ⟨l3, hl3e⟩ : ∃ l3, keepM l2 (stayM l2) = l3 := ⟨_, rfl⟩
  have HON := hid (show onceM l = l3 by unfold onceM; rw [hl1e, hS1e, hl2e, hl3e])
  rw [hl1e] at HG1 hl1 HS2 HG2 hl2 HS3
  rw [hS1e] at HS2 HG2 hl2 HS3
  rw [hl2e] at HG2 hl2 HS3
  have hth := thread_any (w.alloc (.cells #[.slice A0 l.length c0] 43)) _ l (h.kp CeIns.kp ((Kp.refl w).alloc _)) hg hl
  rw [hl1e] at hth
  have HB0 := hid (blk_new w (.cells #[.slice A0 l.length c0] 43))
  have HK0 := hid ((Kp.refl w).alloc (.cells #[.slice A0 l.length c0] 43))
  have HZ0 := hid (World.size_alloc w (.cells #[.slice A0 l.length c0] 43))
  clear h hg hv
  go_enter Try.func32, Try.ntmps32
  go_upto_region 1 with fail
  generalize (w.alloc (.cells #[.slice A0 l.length c0] 43)) = W at HB0 HK0 HZ0 hth ⊢
  rw [hn0] at HB0 HZ0
  have z0 := blk_cell (o := 0) (v := .slice A0 l.length c0) HB0.out rfl
  have zl := blk_lt HB0.out
  go_upto_region 2 with (go_at_call 47; refine hth.mono ?_; rintro e w1 ⟨⟨v1, rfl, ho1⟩, hk1⟩; obtain ⟨A1, c1, rfl⟩ := OIns.form ho1; have HB1 := hid ((hk1.block _ (blk_lt HB0.out)).trans HB0.out); have HO1 := hid ho1; have HK1 := hid (HK0.out.trans hk1); have y0 := blk_cell (o := 0) (v := .slice A0 l.length c0) HB1.out rfl; have yf := blk_free (o := 0) HB1.out; have yl := blk_lt HB1.out; clear ho1 hk1)
  have HB2 := hid (blk_set (o := 0) HB1.out (.slice A1 l1.length c1))
  have HO2 := hid (OIns.far HO1.out (grown_setCell (b := n0) (o := 0) (.slice A1 l1.length c1)) (by rw [HZ0.out]; exact Nat.lt_succ_self _))
  have HK2 := hid (HK1.out.setCell (p := ⟨n0, 0, none⟩) (by show w.heap.size ≤ n0; omega) (.slice A1 l1.length c1))
  have HX2 : Hid (n0 + 1 ≤ (w1.setCell ⟨n0, 0, none⟩ (.slice A1 l1.length c1)).heap.size) := hid (by have := blk_lt HB2.out; omega)
  generalize (w1.setCell ⟨n0, 0, none⟩ (.slice A1 l1.length c1)) = W2 at HB2 HO2 HK2 HX2 ⊢
  rw [HZ0.out] at HO2
  clear y0 yf yl z0 zl hth HB1 HO1 HK1 HB0 HK0 HZ0
  have z0 := blk_cell (o := 0) (v := .slice A1 l1.length c1) HB2.out rfl
  have zl := blk_lt HB2.out
  have hlv := live_any W2 _ l1 (OwnL.rd HO2.out) HG1.out hl1
  rw [hS1e] at hlv
  go_upto_region 3 with (go_at_call 48; refine hlv.mono ?_; rintro e w3 ⟨⟨v3, rfl, ho3⟩, hk3⟩; obtain ⟨A3, c3, e3⟩ := own_form ho3; subst e3; have HB3 := hid ((hk3.block _ (blk_lt HB2.out)).trans HB2.out); have HO3 := hid ho3; have HO2' := hid (HO2.out.kp CeIns.kp hk3); have HK3 := hid (HK2.out.trans hk3); have HX3 := hid (Nat.le_trans HX2.out hk3.le); clear ho3 hk3)
  have hs1 : 0 < S1.length := by rw [HS2.out.len]; exact HG1.out.pos
  obtain ⟨g3, q3, e3, _⟩ := rowSome HO3.out hs1
  cases e3
  have HBS := hid (blk_new w3 (.cells #[.slice (some ⟨g3, 0, none⟩) S1.length c3] 98))
  have hka := (Kp.refl w3).alloc (.cells #[.slice (some ⟨g3, 0, none⟩) S1.length c3] 98)
  have HB4 := hid (blk_old HB3.out (.cells #[.slice (some ⟨g3, 0, none⟩) S1.length c3] 98))
  have HO4 := hid (HO2'.out.kp CeIns.kp hka)
  have HR4 := hid (OBl.kp HO3.out hka)
  have HK4 := hid (HK3.out.trans hka)
  have HX4 := hid (Nat.le_trans HX3.out hka.le)
  generalize (w3.alloc (.cells #[.slice (some ⟨g3, 0, none⟩) S1.length c3] 98)) = W4 at HBS HB4 HO4 HR4 HK4 HX4 ⊢
  generalize w3.heap.size = n3 at HBS ⊢
  clear hka z0 zl HB3 HO3 HO2' HK3 HX3 hlv HB2 HO2 HK2 HX2
  have z0 := blk_cell (o := 0) (v := .slice A1 l1.length c1) HB4.out rfl
  have zl := blk_lt HB4.out
  have hkp := keep1_any W4 _ l1 (OwnL.rd HO4.out) S1 HS2.out HG1.out hl1 n3 (fun u p s hk hp => once1_any u n3 W2.heap.size g3 c3 S1 (cell_kp hk (blk_lt HBS.out) (blk_cell (o := 0) (v := .slice (some ⟨g3, 0, none⟩) S1.length c3) HBS.out rfl)) (Nat.lt_of_lt_of_le (blk_lt HBS.out) hk.le) (OBl.kp HR4.out hk) p s hp)
  rw [hl2e] at hkp
  go_upto_region 4 with (go_at_call 49; refine hkp.mono ?_; rintro e w5 ⟨⟨v5, rfl, ho5⟩, hk5⟩; obtain ⟨A5, c5, rfl⟩ := OIns.form ho5; have HB5 := hid ((hk5.block _ (blk_lt HB4.out)).trans HB4.out); have HO5 := hid ho5; have HK5 := hid (HK4.out.trans hk5); have y0 := blk_cell (o := 0) (v := .slice A1 l1.length c1) HB5.out rfl; have yf := blk_free (o := 0) HB5.out; have yl := blk_lt HB5.out; clear ho5 hk5)
  have HB6 := hid (blk_set (o := 0) HB5.out (.slice A5 l2.length c5))
  have HO6 := hid (OIns.far HO5.out (grown_setCell (b := n0) (o := 0) (.slice A5 l2.length c5)) (by have := HX4.out; omega))
  have HK6 := hid (HK5.out.setCell (p := ⟨n0, 0, none⟩) (by show w.heap.size ≤ n0; omega) (.slice A5 l2.length c5))
  generalize (w5.setCell ⟨n0, 0, none⟩ (.slice A5 l2.length c5)) = W6 at HB6 HO6 HK6 ⊢
  clear y0 yf yl z0 zl hkp HB5 HO5 HK5
  have z0 := blk_cell (o := 0) (v := .slice A5 l2.length c5) HB6.out rfl
  have zl := blk_lt HB6.out
  have hkp := keep2_any W6 _ l2 (OwnL.rd HO6.out) (stayM l2) HS3.out HG2.out hl2 n0 (fun u p s hk hp => once2_any u n0 _ l2 (cell_kp hk (blk_lt HB6.out) (blk_cell (o := 0) (v := .slice A5 l2.length c5) HB6.out rfl)) (Nat.lt_of_lt_of_le (blk_lt HB6.out) hk.le) ((OwnL.rd HO6.out).kp CeIns.kp hk) hl2 p s hp)
  rw [hl3e] at hkp
  go_wp2_with (go_at_call 49; refine hkp.mono ?_; rintro e w7 ⟨⟨v7, rfl, ho7⟩, hk7⟩; have HO7 := hid ho7; have HK7 := hid (HK6.out.trans hk7); clear ho7 hk7)
  go_ret
  exact ⟨⟨_, rfl, by rw [HON.out]; exact OwnL.base_ HK6.out.le HO7.out⟩, HK7.out⟩
end Go.Proofs.Ytgonekmmbeedeaa.Sq
