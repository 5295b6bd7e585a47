/-
  Package defers: copied, all, Push, Pop; and the laws' own calls, sameCall(s). Conditions: what comes in lies within the reach.
-/
import Derived.Test.YtmcidhjcimjeiaaCall
import Derived.Test.YtmcidhjcimjeiaaShelf
import Derived.Test.YtmcidhjcimjeiaaBox
import Derived.Test.YtmcidhjcimjeiaaClone
import Derived.Deep.QuietTactic
import Derived.BigQuiet
import Derived.Deep.RegionHeld3
import Derived.StillTailTactics
namespace Go.Proofs.Ytmcidhjcimjeiaa
open Go.RowKit
set_option linter.unusedVariables false

def okCall (m : CallM) : Prop := okI m.site ∧ okI m.fn ∧ (∀ x ∈ m.args, okI x) ∧ m.args.length * 8 ≤ 140737488351232
/-- A Call whose arguments are a row of the call's own. -/
def CeOC (base : Nat) (w : World) (cs : List Value) (m : CallM) : Prop := ∃ largs, cs = [.int .i64 m.site, .int .i64 m.fn, largs] ∧ OwnI w base largs m.args ∧ okCall m
theorem CeOC.kp {base : Nat} : ElKp (CeOC base) := fun _ _ _ _ hk ⟨l, h, h0, h1⟩ => ⟨l, h, ownsRow_keep h0 hk, h1⟩
theorem CeOC.ce {base : Nat} {w : World} {cs : List Value} {m : CallM} (h : CeOC base w cs m) : CeCall w cs m := by
  obtain ⟨l, h, h0, h1, h2, h3, h4⟩ := h
  exact ⟨l, h, h1, h2, h0.rd (by omega) h3, h4⟩
def OCalls (w : World) (base : Nat) (v : Value) (l : List CallM) : Prop := OwnL (CeOC base) 3 25 w base v l
def RdCalls (w : World) (v : Value) (l : List CallM) : Prop := RdL CeCall 3 w v l
theorem OCalls.base {w : World} {b B : Nat} {v : Value} {l : List CallM} (h : OCalls w B v l) (hb : b ≤ B) : OCalls w b v l := OwnL.base_ hb (OwnL.mono (fun cs a ⟨la, g1, g2, g3⟩ => ⟨la, g1, own_base hb g2, g3⟩) h)
theorem OwnI.setCell {w : World} {base : Nat} {v : Value} {xs : List Int} (h : OwnI w base v xs) {p : Addr} (hp : p.block < base) (u : Value) : OwnI (w.setCell p u) base v xs := ownsRow_setCell_below h hp u
theorem OCalls.setCell {w : World} {base : Nat} {v : Value} {l : List CallM} (h : OCalls w base v l) {p : Addr} (hp : p.block < base) (u : Value) : OCalls (w.setCell p u) base v l := by
  obtain ⟨xs, h1, h2⟩ := h
  exact ⟨xs, ownsRow_setCell_below h1 hp u, h2.mono fun cs a ⟨la, g1, g2, g3⟩ => ⟨la, g1, g2.setCell hp u, g3⟩⟩
theorem OwnI.kp {w w' : World} {base : Nat} {v : Value} {xs : List Int} (h : OwnI w base v xs) (hk : Kp w w') : OwnI w' base v xs := ownsRow_keep h hk
theorem OCalls.rd {w : World} {base : Nat} {v : Value} {l : List CallM} (h : OCalls w base v l) : RdCalls w v l := (OwnL.rd h).mono fun _ _ => CeOC.ce
theorem RdCalls.kp {w w' : World} {v : Value} {l : List CallM} (h : RdCalls w v l) (hk : Kp w w') : RdCalls w' v l := RdL.kp CeCall.kp h hk
theorem OCalls.kp {w w' : World} {base : Nat} {v : Value} {l : List CallM} (h : OCalls w base v l) (hk : Kp w w') : OCalls w' base v l := OwnL.kp CeOC.kp h hk
def OCall (w : World) (base : Nat) (v : Value) (m : CallM) : Prop := ∃ largs, v = .agg #[.int .i64 m.site, .int .i64 m.fn, largs] ∧ OwnI w base largs m.args ∧ okCall m

theorem OCall.rd {w : World} {base : Nat} {v : Value} {m : CallM} (h : OCall w base v m) : RdCall w v m := by
  obtain ⟨l, h, h0, h1, h2, h3, h4⟩ := h
  exact ⟨l, h, h1, h2, h0.rd (by omega) h3, h4⟩
set_option maxHeartbeats 1000000 in
theorem copied_any (v : Value) (m : CallM) (w : World) (h : RdCall w v m) : Calls Try.prog 43 #[v] w fun e w' => (∃ v', e = .returned v' ∧ OCall w' w.heap.size v' m) ∧ Kp w w' := by
  obtain ⟨largs, rfl, h1, h2, h3, h4⟩ := h
  have HL := hid h3
  have HOK : Hid (okCall m) := hid ⟨h1, h2, h3.2.1, h4⟩
  have hkp : Kp w ((w.alloc (.cells #[.int .i64 m.site, .int .i64 m.fn, largs] 25)).alloc (.cells #[.int .i64 0, .int .i64 0, .slice none 0 0] 25)) := ((Kp.refl w).alloc _).alloc _
  obtain ⟨_, _, A, c, rfl, _, _⟩ := h3
  go_enter Try.func43, Try.ntmps43
  go_wp2_with (go_at_call 50; go_must (refine (clone_ints _ m.args _ (HL.out.kp hkp)).mono ?_); rintro e w1 ⟨⟨v1, rfl, hown1⟩, hb1⟩; obtain ⟨A1, c1, rfl⟩ := own_form hown1; obtain ⟨hc1, hf1, hz1⟩ := kp_at hb1 (w.heap.size + 2) (by simp))
  have hfin : OwnI ((((w1.setCell ⟨w.heap.size, 2, none⟩ (.slice A1 m.args.length c1)).setCell ⟨w.heap.size + 1, 0, none⟩ (.int .i64 m.site)).setCell ⟨w.heap.size + 1, 1, none⟩ (.int .i64 m.fn)).setCell ⟨w.heap.size + 1, 2, none⟩ (.slice A1 m.args.length c1)) w.heap.size (.slice A1 m.args.length c1) m.args := by
    refine own_base (B := w.heap.size + 2) (by omega) ?_
    have hown1 : w1.ownsRow (w.heap.size + 2) 3 1 (.slice A1 m.args.length c1) m.args.length (m.args.map intV) := by have := hown1; unfold OwnI at this; simpa using this
    exact ownsRow_setCell_below (ownsRow_setCell_below (ownsRow_setCell_below (ownsRow_setCell_below hown1 (by simp) _) (by simp) _) (by simp) _) (by simp) _
  have hkp2 : Kp w ((((w1.setCell ⟨w.heap.size, 2, none⟩ (.slice A1 m.args.length c1)).setCell ⟨w.heap.size + 1, 0, none⟩ (.int .i64 m.site)).setCell ⟨w.heap.size + 1, 1, none⟩ (.int .i64 m.fn)).setCell ⟨w.heap.size + 1, 2, none⟩ (.slice A1 m.args.length c1)) :=
    ((((Kp.trans hkp hb1).setCell (by simp) _).setCell (by simp) _).setCell (by simp) _).setCell (by simp) _
  exact bodyPost_ret (v := .agg #[.int .i64 m.site, .int .i64 m.fn, .slice A1 m.args.length c1]) (by simp [results, Try.results43, go_sem, hc1]) rfl ⟨⟨_, rfl, _, rfl, hfin, HOK.out⟩, hkp2⟩

theorem CeOC.touch {base : Nat} {w w' : World} {cs : List Value} {m : CallM} (h : CeOC base w cs m) (ht : Touch 25 w w') : CeOC base w' cs m := by
  obtain ⟨l, h, h0, h1⟩ := h
  exact ⟨l, h, ownsRow_touch (by decide) h0 ht, h1⟩
/-- One call more, appended. -/
theorem OCalls.snoc {w w' : World} {base B : Nat} {v v' : Value} {l : List CallM} {m : CallM} {la : Value} {n : Nat} {xs : List Value} {cs : Array Value} (hx : Chunk (CeOC base) 3 w xs l) (hown : w.ownsRow base 25 3 v l.length xs) (hg : w.grownBy w' v.ownBlock) (hcs : cs = #[.int .i64 m.site, .int .i64 m.fn, la]) (hn : n = l.length + 1) (h : w'.ownsRow base 25 3 v' n (xs ++ cs.toList)) (ho : OwnI w B la m.args) (hB : base ≤ B) (hok : okCall m) : OCalls w' base v' (l ++ [m]) := by
  subst hcs
  have ht := Touch.of_grown hown hg
  exact OwnL.snoc hn hx (fun cs a h => h.touch ht) (CeOC.touch ⟨la, rfl, own_base hB ho, hok⟩ ht) rfl h
set_option maxHeartbeats 1000000 in
theorem all_any (v : Value) (l : List CallM) (w : World) (h : RdCalls w v l) (hl : (l.length + 1) * 40 ≤ 140737488355328) : Calls Try.prog 42 #[v] w fun e w' => (∃ v', e = .returned v' ∧ OCalls w' w.heap.size v' l) ∧ Kp w w' := by
  have HL := hid h
  obtain ⟨A, c, rfl, hc⟩ := h.form
  clear h
  go_enter Try.func42, Try.ntmps42
  go_wp2_with (at_make; go_must (refine mk_own elCall rfl _ _ rfl (base := w.heap.size) (l.length + 1) rfl rfl (by simp) (by omega) (by unfold maxLen; omega) (Nat.le_refl _) ?_); intro w1 hown1 hb1 hg1)
  go_loopw [3, 12] (fun v i wr => ∃ k : Nat, k ≤ l.length ∧ i = .int .i64 k ∧ OCalls wr w.heap.size v (l.take k) ∧ Kp w wr) (fun _ i _ => l.length - (intOf i).toNat)
  case atStart => exact ⟨0, by omega, rfl, ⟨[], hown1, rfl⟩, hb1⟩
  case round =>
    obtain ⟨k, hk, rfl, hown, hkp⟩ := hrel
    have hsz := hkp.le
    have HC := HL.out.kp hkp
    by_cases hlt : k < l.length
    · obtain ⟨m, hm⟩ : ∃ m, l[k]? = some m := ⟨l[k], List.getElem?_eq_getElem hlt⟩
      obtain ⟨b, off, rfl, hb, la, q0, q1, q2, o0, o1, o2, o3⟩ := at_call HC hm
      have HM := hid hm; have HO := hid (show okCall m from ⟨o0, o1, o2.2.1, o3⟩)
      have HR := hid o2
      obtain ⟨A2, c2, rfl⟩ := o2.form
      have i1 : (k : Int) < (l.length : Int) := by omega
      clear hm o0 o1 o2 o3
      have HOwn := hid hown
      clear hown
      have hlen : (l.take k).length = k := by rw [List.length_take]; omega
      go_wp2_with (first
        | (go_at_call 43; go_must (refine (copied_any _ m _ ⟨_, rfl, HO.out.1, HO.out.2.1, HR.out.kp ((Kp.refl _).alloc _), HO.out.2.2.2⟩).mono ?_); rintro e w1 ⟨⟨v1, rfl, la1, rfl, hoi, hok⟩, hk1⟩; obtain ⟨A3, c3, rfl⟩ := own_form hoi; obtain ⟨xs, hown1, hch⟩ := HOwn.out.kp (((Kp.refl _).alloc _).trans hk1); have HCh := hid hch; clear hch; have hz1 : w.heap.size ≤ w1.heap.size := Nat.le_trans hsz (((Kp.refl _).alloc _).trans hk1).le)
        | (at_builtin; go_must (refine app_lit elCall rfl (.tmp 16) (.tmp 19) rfl hown1 rfl _ _ 1 1 rfl rfl (by intro u hu; simp at hu; rcases hu with rfl | rfl | rfl <;> rfl) (by rw [hlen]; unfold maxLen; omega) (by rw [hlen]; omega) hz1 ?_); intro v2 w2 hown2 hg2 hm2 hn2 hb2))
      go_roundw
      case rel => exact ⟨k + 1, by omega, by simp, by rw [← take_snoc HM.out]; exact OCalls.snoc HCh.out hown1 hg2 rfl rfl hown2 hoi (Nat.le_trans hsz (by simp)) hok, Below.trans ((hkp.alloc _).trans hk1) hb2⟩
      case measure => simp [intOf]; omega
    · obtain rfl : k = l.length := by omega
      rw [List.take_length] at hown
      have i1 : ¬ ((l.length : Int) < (l.length : Int)) := by omega
      go_wp2
      go_ret
      exact ⟨⟨_, rfl, hown⟩, hkp⟩

/-! ### the laws' own sameCall, sameCalls, calls -/
set_option maxHeartbeats 1000000 in
theorem sameCall_eq (va vb : Value) (m : CallM) (w : World) (ha : RdCall w va m) (hb : RdCall w vb m) : Calls Try.prog 19 #[va, vb] w fun e w' => e = .returned (.bool true) ∧ Kp w w' := by
  obtain ⟨la, rfl, _, _, ha, _⟩ := ha
  obtain ⟨lb, rfl, _, _, hb, _⟩ := hb
  obtain ⟨hl1, _, A, c, rfl, hc1, hcell1⟩ := ha
  obtain ⟨hl2, _, B, d, rfl, hc2, hcell2⟩ := hb
  have H1 := hid hcell1; have H2 := hid hcell2
  clear hcell1 hcell2
  go_enter Try.func19, Try.ntmps19
  go_wp2
  go_loopw [5] (fun i wr => ∃ k n : Nat, k ≤ m.args.length ∧ i = .int .i64 k ∧ wr = (((w.alloc (.cells #[.int .i64 m.site, .int .i64 m.fn, .slice A m.args.length c] 25)).alloc (.cells #[.int .i64 m.site, .int .i64 m.fn, .slice B m.args.length d] 25)).drewN n)) (fun i _ => m.args.length - (intOf i).toNat)
  case atStart => exact ⟨0, 0, by omega, rfl, rfl⟩
  case round =>
    obtain ⟨k, n, hk, rfl, rfl⟩ := hrel
    by_cases hlt : k < m.args.length
    · obtain ⟨b, off, rfl, hb1, hcA⟩ := H1.out (by omega)
      have hc1' := cell_kp (((Kp.refl w).alloc (.cells #[.int .i64 m.site, .int .i64 m.fn, .slice (some ⟨b, off, none⟩) m.args.length c] 25)).alloc (.cells #[.int .i64 m.site, .int .i64 m.fn, .slice B m.args.length d] 25)) hb1 (hcA k hlt)
      obtain ⟨b2, off2, rfl, hb2, hcB⟩ := H2.out (by omega)
      have hc2' := cell_kp (((Kp.refl w).alloc (.cells #[.int .i64 m.site, .int .i64 m.fn, .slice (some ⟨b, off, none⟩) m.args.length c] 25)).alloc (.cells #[.int .i64 m.site, .int .i64 m.fn, .slice (some ⟨b2, off2, none⟩) m.args.length d] 25)) hb2 (hcB k hlt)
      obtain ⟨x, hx⟩ : ∃ x, m.args.getD k 0 = x := ⟨_, rfl⟩
      rw [hx] at hc1' hc2'
      unfold intV at hc1' hc2'
      have i1 : (k : Int) < (m.args.length : Int) := by omega
      clear hx hcA hcB
      go_wp2
      go_quiet (fail)
      go_wp2
      go_roundw
      case rel => exact ⟨k + 1, _, by omega, by simp, rfl⟩
      case measure => simp [intOf]; omega
    · have i1 : ¬ ((k : Int) < (m.args.length : Int)) := by omega
      go_wp2
      go_ret
      exact ⟨rfl, (((Kp.refl w).alloc _).alloc _).drewN n⟩
set_option maxHeartbeats 1000000 in
theorem sameCalls_eq (va vb : Value) (l : List CallM) (w : World) (ha : RdCalls w va l) (hb : RdCalls w vb l) (hl : l.length * 40 ≤ 140737488355328) : Calls Try.prog 18 #[va, vb] w fun e w' => e = .returned (.bool true) ∧ Kp w w' := by
  have HA := hid ha; have HB := hid hb
  obtain ⟨A, c, rfl, hc⟩ := ha.form
  obtain ⟨B, d, rfl, hd⟩ := hb.form
  clear ha hb
  go_enter Try.func18, Try.ntmps18
  go_wp2
  go_loopw [5] (fun i wr => ∃ k : Nat, k ≤ l.length ∧ i = .int .i64 k ∧ Kp w wr) (fun i _ => l.length - (intOf i).toNat)
  case atStart => exact ⟨0, by omega, rfl, Kp.refl _⟩
  case round =>
    obtain ⟨k, hk, rfl, hkp⟩ := hrel
    by_cases hlt : k < l.length
    · obtain ⟨m, hm⟩ : ∃ m, l[k]? = some m := ⟨l[k], List.getElem?_eq_getElem hlt⟩
      obtain ⟨b, off, rfl, hb, la, p0, p1, p2, o0, o1, o2, o3⟩ := at_call (HA.out.kp hkp) hm
      obtain ⟨b', off', rfl, hb', lb, q0, q1, q2, _, _, o2', _⟩ := at_call (HB.out.kp hkp) hm
      have R1 : Hid (RdCall wr (.agg #[.int .i64 m.site, .int .i64 m.fn, la]) m) := hid ⟨la, rfl, o0, o1, o2, o3⟩
      have R2 : Hid (RdCall wr (.agg #[.int .i64 m.site, .int .i64 m.fn, lb]) m) := hid ⟨lb, rfl, o0, o1, o2', o3⟩
      have i1 : (k : Int) < (l.length : Int) := by omega
      clear hm o0 o1 o2 o2' o3 HA HB
      go_wp2_with fail
      go_still_tail 8, (by kernel_rfl)
      change wpList _ _ _ _ _ wr.drew
      have hk2 : Kp wr wr.drew := (Kp.refl _).drew
      have S1 := hid (R1.out.kp hk2); have S2 := hid (R2.out.kp hk2)
      generalize wr.drew = w2 at *
      go_wp2_with (go_at_call 19; go_must (refine (sameCall_eq _ _ m _ S1.out S2.out).mono ?_); rintro e w1 ⟨rfl, hk1⟩)
      go_roundw
      case rel => exact ⟨k + 1, by omega, by simp, (hkp.trans hk2).trans hk1⟩
      case measure => simp [intOf]; omega
    · have i1 : ¬ ((k : Int) < (l.length : Int)) := by omega
      go_wp2
      go_ret
      exact ⟨rfl, hkp⟩
/-- append(calls, a call) at a step of a region that draws its order. -/
theorem step_snoc {ops : Array Oper} {o : Oper} {a : Act} {Q : Exit → Act → World → Prop} {K : Act → World → Prop} {E' : Prop} {W : World} {base B g : Nat} {v1 la : Value} {l : List CallM} {m : CallM} (hgd : o.guard = none) (s x : Operand) (ho : o.op = .call { callee := .builtin .append, args := #[s, x], argTypes := #[22, 22] })
    (hO : OCalls W base v1 l) (hs : a.eval s = v1) (hx : a.eval x = .slice (some ⟨g, 0, none⟩) 1 1) (hlit : ∀ j u, [.int .i64 m.site, .int .i64 m.fn, la][j]? = some u → W.cell? ((⟨g, 0, none⟩ : Addr).add j) = some u)
    (hoi : OwnI W B la m.args) (hB : base ≤ B) (hok : okCall m) (hl : (l.length + 1) * 40 ≤ 140737488355328) (hbase : base ≤ W.heap.size)
    (h : ∀ v' w', OCalls w' base v' (l ++ [m]) → Below base W w' → K (a.put o.dst v') w') :
    if Region.wanted o (yielded ops a.tmps) = true then Oper.wp Try.prog o a W K Q else E' := by
  obtain ⟨xs, hown, hch⟩ := hO
  have h1 : ∀ u ∈ ([.int .i64 m.site, .int .i64 m.fn, la] : List Value), u.oneCell' = true := by
    obtain ⟨A3, c3, rfl⟩ := own_form hoi
    intro u hu; simp at hu; rcases hu with rfl | rfl | rfl <;> rfl
  exact step_app elCall hgd s x ho hown hs [.int .i64 m.site, .int .i64 m.fn, la] _ 1 1 hx rfl (fun _ => ⟨_, rfl, hlit⟩) h1 (by unfold maxLen; omega) (by omega) hbase
    (fun v' w' g1 g2 _ g4 => h v' w' (OCalls.snoc (cs := #[.int .i64 m.site, .int .i64 m.fn, la]) hch hown g2 rfl rfl g1 hoi hB hok) g4)
theorem lit_new (w : World) (cs : Array Value) (T : TypeId) : ∀ j u, cs.toList[j]? = some u → (w.alloc (.cells cs T)).cell? ((⟨w.heap.size, 0, none⟩ : Addr).add j) = some u := by
  intro j u hu; rw [cell_of_alloc]; rw [Array.getElem?_toList] at hu; exact hu
theorem lit_kp {w w' : World} (hk : Kp w w') {b : Nat} (hb : b < w.heap.size) {l : List Value} (h : ∀ j u, l[j]? = some u → w.cell? ((⟨b, 0, none⟩ : Addr).add j) = some u) : ∀ j u, l[j]? = some u → w'.cell? ((⟨b, 0, none⟩ : Addr).add j) = some u := by
  intro j u hu
  have e : (⟨b, 0, none⟩ : Addr).add j = ⟨b, j, none⟩ := by unfold Addr.add; split <;> simp_all
  have := h j u hu
  rw [e] at this ⊢
  exact cell_kp hk hb this
abbrev HeldC (w : World) (m : CallM) (la : Value) (w' : World) : Prop := w'.cell? ⟨w.heap.size, 0, none⟩ = some (.int .i64 m.site) ∧ w'.cell? ⟨w.heap.size, 1, none⟩ = some (.int .i64 m.fn) ∧ w'.cell? ⟨w.heap.size, 2, none⟩ = some la ∧ Kp w w' ∧ w.heap.size < w'.heap.size
theorem HeldC.kp {w w' w2 : World} {m : CallM} {la : Value} (h : HeldC w m la w') (hk : Kp w' w2) : HeldC w m la w2 := by
  obtain ⟨h0, h1, h2, h3, h4⟩ := h
  exact ⟨cell_kp hk h4 h0, cell_kp hk h4 h1, cell_kp hk h4 h2, h3.trans hk, by have := hk.le; omega⟩
theorem HeldC.below {w w' w2 : World} {m : CallM} {la : Value} (h : HeldC w m la w') (hk : Below (w.heap.size + 1) w' w2) : HeldC w m la w2 := by
  obtain ⟨h0, h1, h2, h3, h4⟩ := h
  have hc := (below_cells hk).1
  exact ⟨(hc _ _ (by omega)).trans h0, (hc _ _ (by omega)).trans h1, (hc _ _ (by omega)).trans h2, Below.trans h3 (Below.mono hk (by omega)), by have := hk.size; omega⟩
theorem HeldC.le {w w' : World} {m : CallM} {la : Value} (h : HeldC w m la w') : w.heap.size + 1 ≤ w'.heap.size := h.2.2.2.2
theorem HeldC.k {w w' : World} {m : CallM} {la : Value} (h : HeldC w m la w') : Kp w w' := h.2.2.2.1
theorem HeldC.mk_ (w : World) (m : CallM) (la : Value) : HeldC w m la (w.alloc (.cells #[.int .i64 m.site, .int .i64 m.fn, la] 25)) := by
  refine ⟨?_, ?_, ?_, (Kp.refl _).alloc _, by simp⟩ <;> simp [go_sem]
theorem all_h {w w' : World} {mm : CallM} {la v : Value} {l : List CallM} (H : HeldC w mm la w') (h : Hid (RdCalls w v l)) (hl : (l.length + 1) * 40 ≤ 140737488355328) : Calls Try.prog 42 #[v] w' fun e w2 => (∃ v', e = .returned v' ∧ OCalls w2 (w.heap.size + 1) v' l) ∧ Kp w' w2 :=
  (all_any v l w' (h.out.kp H.2.2.2.1) hl).mono fun e w2 ⟨⟨v', h1, h2⟩, h3⟩ => ⟨⟨v', h1, h2.base H.2.2.2.2⟩, h3⟩
theorem copied_h {w w' : World} {mm m : CallM} {la v : Value} (H : HeldC w mm la w') (h : Hid (RdCall w v m)) : Calls Try.prog 43 #[v] w' fun e w2 => (∃ v', e = .returned v' ∧ OCall w2 (w.heap.size + 1) v' m) ∧ Kp w' w2 :=
  (copied_any v m w' (h.out.kp H.2.2.2.1)).mono fun e w2 ⟨⟨v', h1, la, g1, g2, g3⟩, h3⟩ => ⟨⟨v', h1, la, g1, own_base H.2.2.2.2 g2, g3⟩, h3⟩
set_option maxHeartbeats 1000000 in
theorem push_any (v vc : Value) (l : List CallM) (m : CallM) (w : World) (h : RdCalls w v l) (hc : RdCall w vc m) (hl : (l.length + 1) * 40 ≤ 140737488355328) : Calls Try.prog 15 #[v, vc] w fun e w' => (∃ v', e = .returned v' ∧ OCalls w' w.heap.size v' (l ++ [m])) ∧ Kp w w' := by
  have HL := hid h; have HC := hid hc
  obtain ⟨A, c, rfl, hlc⟩ := h.form
  obtain ⟨la, rfl, o0, o1, o2, o3⟩ := hc
  obtain ⟨A2, c2, rfl⟩ := o2.form
  clear h o2
  go_enter Try.func15, Try.ntmps15
  go_wp2_with fail
  have F := HeldC.mk_ w m (.slice A2 m.args.length c2)
  generalize (w.alloc (.cells #[.int .i64 m.site, .int .i64 m.fn, .slice A2 m.args.length c2] 25)) = W0 at F ⊢
  have F' : HeldC w m (.slice A2 m.args.length c2) (World.drew _) := F.kp (Kp.refl _).drew
  go_region_held3 (HeldC w m (.slice A2 m.args.length c2)) (first | assumption | exact HeldC.kp (by assumption) (by assumption) | exact HeldC.kp (by assumption) ((Kp.refl _).alloc _) | exact HeldC.below (by assumption) (by assumption)) (first
    | ((go_at_call 42; refine (all_h (by assumption) HL hl).mono ?_; rintro e wA ⟨⟨vA, rfl, hA⟩, hkA⟩))
    | ((go_at_call 43; refine (copied_h (by assumption) HC).mono ?_; rintro e wB ⟨⟨vB, rfl, laB, rfl, hB, hokB⟩, hkB⟩; obtain ⟨A3, c3, rfl⟩ := own_form hB))
    | ((have T1 : Kp wA wB := hkB; refine step_snoc (by rfl) (.tmp 6) (.tmp 9) (by rfl) (hA.kp (T1.trans ((Kp.refl _).alloc _))) (by rfl) (by rfl) (lit_new _ #[_, _, _] _) (ownsRow_keep hB ((Kp.refl _).alloc _)) (Nat.le_refl _) hokB hl (HeldC.le (by assumption)) ?_; intro v2 w2 hown2 hb2))
    | ((have T1 : Kp wB wA := hkA; refine step_snoc (by rfl) (.tmp 6) (.tmp 9) (by rfl) (hA.kp ((Kp.refl _).alloc _)) (by rfl) (by rfl) (lit_new _ #[_, _, _] _) (ownsRow_keep hB (T1.trans ((Kp.refl _).alloc _))) (Nat.le_refl _) hokB hl (HeldC.le (by assumption)) ?_; intro v2 w2 hown2 hb2))
    | ((have T1 : Kp (wB.alloc _) wA := hkA; refine step_snoc (by rfl) (.tmp 6) (.tmp 9) (by rfl) hA (by rfl) (by rfl) (lit_kp T1 (by simp) (lit_new _ #[_, _, _] _)) (ownsRow_keep hB (((Kp.refl _).alloc _).trans T1)) (Nat.le_refl _) hokB hl (HeldC.le (by assumption)) ?_; intro v2 w2 hown2 hb2)))
  all_goals
    go_wp2
    go_ret
    exact ⟨⟨_, rfl, hown2.base (by omega)⟩, HeldC.k (m := m) (la := .slice A2 m.args.length c2) (by assumption)⟩
/-- What stands through Pop's last statement: the list's last call, and the box of the result. -/
abbrev HeldP (w : World) (b o : Nat) (m : CallM) (la : Value) (w' : World) : Prop :=
  w'.cell? ⟨b, o, none⟩ = some (.int .i64 m.site) ∧ w'.cell? ⟨b, o + 1, none⟩ = some (.int .i64 m.fn) ∧ w'.cell? ⟨b, o + 2, none⟩ = some la ∧ BoxAt w' w.heap.size 0 ∧ BoxAt w' w.heap.size 1 ∧ BoxAt w' w.heap.size 2 ∧ Kp w w' ∧ w.heap.size < w'.heap.size ∧ b < w.heap.size
theorem HeldP.kp {w w' w2 : World} {b o : Nat} {m : CallM} {la : Value} (h : HeldP w b o m la w') (hk : Kp w' w2) : HeldP w b o m la w2 := by
  obtain ⟨h0, h1, h2, h3, h4, h5, h6, h7, h8⟩ := h
  have := h6.le
  exact ⟨cell_kp hk (by omega) h0, cell_kp hk (by omega) h1, cell_kp hk (by omega) h2, h3.kp hk h7, h4.kp hk h7, h5.kp hk h7, h6.trans hk, by have := hk.le; omega, h8⟩
theorem HeldP.set {w w' : World} {b o : Nat} {m : CallM} {la : Value} (h : HeldP w b o m la w') (j : Nat) (v : Value) : HeldP w b o m la (w'.setCell ⟨w.heap.size, j, none⟩ v) := by
  obtain ⟨h0, h1, h2, h3, h4, h5, h6, h7, h8⟩ := h
  exact ⟨cell_set_far h0 (by omega) _, cell_set_far h1 (by omega) _, cell_set_far h2 (by omega) _, h3.setCell _ _, h4.setCell _ _, h5.setCell _ _, h6.setCell (Nat.le_refl _) _, by simpa [World.setCell] using h7, h8⟩
theorem HeldP.k {w w' : World} {b o : Nat} {m : CallM} {la : Value} (h : HeldP w b o m la w') : Kp w w' := h.2.2.2.2.2.2.1
theorem HeldP.lt {w w' : World} {b o : Nat} {m : CallM} {la : Value} (h : HeldP w b o m la w') : w.heap.size < w'.heap.size := h.2.2.2.2.2.2.2.1
/-- What Pop's end wants of its last world. -/
def PopEnd (w : World) (l : List CallM) (m : CallM) (vA la : Value) (w' : World) : Prop :=
  w'.cell? ⟨w.heap.size, 0, none⟩ = some (.int .i64 m.site) ∧ w'.cell? ⟨w.heap.size, 1, none⟩ = some (.int .i64 m.fn) ∧ w'.cell? ⟨w.heap.size, 2, none⟩ = some la ∧ OCalls w' w.heap.size vA l ∧ OwnI w' w.heap.size la m.args ∧ Kp w w'
/-- The store last. -/
theorem PopEnd.of_store {w w' : World} {b o : Nat} {m : CallM} {la l2 vA : Value} {l : List CallM} (h : HeldP w b o m l2 w') (hA : OCalls w' (w.heap.size + 1) vA l) (hB : OwnI w' (w.heap.size + 1) la m.args) :
    PopEnd w l m vA la (((w'.setCell ⟨w.heap.size, 0, none⟩ (.int .i64 m.site)).setCell ⟨w.heap.size, 1, none⟩ (.int .i64 m.fn)).setCell ⟨w.heap.size, 2, none⟩ la) := by
  obtain ⟨c0, c1, c2⟩ := set3_cells h.2.2.2.1 h.2.2.2.2.1 h.2.2.2.2.2.1 (.int .i64 m.site) (.int .i64 m.fn) la
  exact ⟨c0, c1, c2, (((hA.setCell (by simp) _).setCell (by simp) _).setCell (by simp) _).base (by omega), own_base (by omega) (((hB.setCell (by simp) _).setCell (by simp) _).setCell (by simp) _), (((h.k.setCell (Nat.le_refl _) _).setCell (Nat.le_refl _) _).setCell (Nat.le_refl _) _)⟩
/-- The call of all last. -/
theorem PopEnd.of_call {w w' w2 : World} {b o : Nat} {m : CallM} {la l2 vA : Value} {l : List CallM} (h : HeldP w b o m l2 w') (hB : OwnI w' (w.heap.size + 1) la m.args) (hk : Kp (((w'.setCell ⟨w.heap.size, 0, none⟩ (.int .i64 m.site)).setCell ⟨w.heap.size, 1, none⟩ (.int .i64 m.fn)).setCell ⟨w.heap.size, 2, none⟩ la) w2) (hA : OCalls w2 (w.heap.size + 1) vA l) :
    PopEnd w l m vA la w2 := by
  obtain ⟨c0, c1, c2⟩ := set3_cells h.2.2.2.1 h.2.2.2.2.1 h.2.2.2.2.2.1 (.int .i64 m.site) (.int .i64 m.fn) la
  have hz : w.heap.size < (((w'.setCell ⟨w.heap.size, 0, none⟩ (.int .i64 m.site)).setCell ⟨w.heap.size, 1, none⟩ (.int .i64 m.fn)).setCell ⟨w.heap.size, 2, none⟩ la).heap.size := by simpa [World.setCell] using h.lt
  exact ⟨cell_kp hk hz c0, cell_kp hk hz c1, cell_kp hk hz c2, hA.base (by omega), own_base (by omega) ((((hB.setCell (by simp) _).setCell (by simp) _).setCell (by simp) _).kp hk), (((h.k.setCell (Nat.le_refl _) _).setCell (Nat.le_refl _) _).setCell (Nat.le_refl _) _).trans hk⟩
theorem all_p {w w' : World} {b o : Nat} {mm : CallM} {la v : Value} {l : List CallM} (H : HeldP w b o mm la w') (h : Hid (RdCalls w v l)) (hl : (l.length + 1) * 40 ≤ 140737488355328) : Calls Try.prog 42 #[v] w' fun e w2 => (∃ v', e = .returned v' ∧ OCalls w2 (w.heap.size + 1) v' l) ∧ Kp w' w2 :=
  (all_any v l w' (h.out.kp H.2.2.2.2.2.2.1) hl).mono fun e w2 ⟨⟨v', h1, h2⟩, h3⟩ => ⟨⟨v', h1, h2.base H.2.2.2.2.2.2.2.1⟩, h3⟩
theorem copied_p {w w' : World} {b o : Nat} {mm m : CallM} {la v : Value} (H : HeldP w b o mm la w') (h : Hid (RdCall w v m)) : Calls Try.prog 43 #[v] w' fun e w2 => (∃ v', e = .returned v' ∧ OCall w2 (w.heap.size + 1) v' m) ∧ Kp w' w2 :=
  (copied_any v m w' (h.out.kp H.2.2.2.2.2.2.1)).mono fun e w2 ⟨⟨v', h1, la, g1, g2, g3⟩, h3⟩ => ⟨⟨v', h1, la, g1, own_base H.2.2.2.2.2.2.2.1 g2, g3⟩, h3⟩
set_option maxHeartbeats 1000000 in
theorem pop_any (v : Value) (l : List CallM) (m : CallM) (w : World) (h : RdCalls w v (l ++ [m])) (hl : (l.length + 1) * 40 ≤ 140737488355328) : Calls Try.prog 17 #[v] w fun e w' => (∃ v1 v2, e = .returned (.tuple #[v1, v2, .bool true]) ∧ OCalls w' w.heap.size v1 l ∧ OCall w' w.heap.size v2 m) ∧ Kp w w' := by
  have HL := hid h
  obtain ⟨A, c, rfl, hlc⟩ := h.form
  have hlen : (l ++ [m]).length = l.length + 1 := by simp
  obtain ⟨b, off, rfl, hb, la, q0, q1, q2, o0, o1, o2, o3⟩ := at_call (i := l.length) (m := m) h (by simp)
  obtain ⟨A2, c2, rfl⟩ := o2.form
  have HT : Hid (RdCalls w (.slice (some ⟨b, off, none⟩) l.length c) l) := hid (by
    have := RdL.take (k := l.length) h (by simp)
    unfold RdCalls; simpa using this)
  have HC : Hid (RdCall w (.agg #[.int .i64 m.site, .int .i64 m.fn, .slice A2 m.args.length c2]) m) := hid ⟨_, rfl, o0, o1, o2, o3⟩
  rw [hlen] at HL hlc ⊢
  have hne : ((l.length : Int) + 1 == 0) = false := by simp; omega
  have i1 : (0 : Int) ≤ (l.length : Int) := by omega
  have i2 : (l.length : Int) < (l.length : Int) + 1 := by omega
  have i3 : l.length ≤ c := by omega
  have F : HeldP w b (off + l.length * 3) m (.slice A2 m.args.length c2) (w.alloc (.cells #[.int .i64 0, .int .i64 0, .slice none 0 0] 25)) :=
    ⟨cell_kp ((Kp.refl _).alloc _) hb q0, cell_kp ((Kp.refl _).alloc _) hb q1, cell_kp ((Kp.refl _).alloc _) hb q2, BoxAt.mk_ (v := .int .i64 0) (by simp [go_sem]) (by simp [go_sem]), BoxAt.mk_ (v := .int .i64 0) (by simp [go_sem]) (by simp [go_sem]), BoxAt.mk_ (v := .slice none 0 0) (by simp [go_sem]) (by simp [go_sem]), (Kp.refl _).alloc _, by simp, hb⟩
  clear h o2 hlen q0 q1 q2
  go_enter Try.func17, Try.ntmps17
  go_wp2_with fail
  generalize (w.alloc (.cells #[.int .i64 0, .int .i64 0, .slice none 0 0] 25)) = W0 at F ⊢
  have F' : HeldP w b (off + l.length * 3) m (.slice A2 m.args.length c2) (World.drew _) := F.kp (Kp.refl _).drew
  go_region_held3 (HeldP w b (off + l.length * 3) m (.slice A2 m.args.length c2)) (first | assumption | exact HeldP.kp (by assumption) (by assumption) | exact HeldP.set (HeldP.set (HeldP.set (by assumption) _ _) _ _) _ _) (first
    | ((go_at_call 42; refine (all_p (by assumption) HT (by omega)).mono ?_; rintro e wA ⟨⟨vA, rfl, hA⟩, hkA⟩))
    | ((go_at_call 43; refine (copied_p (by assumption) HC).mono ?_; rintro e wB ⟨⟨vB, rfl, laB, rfl, hB, hokB⟩, hkB⟩; obtain ⟨A3, c3, rfl⟩ := own_form hB)))
  all_goals
    have E := PopEnd.of_store ((F'.kp hkA).kp hkB) (hA.kp hkB) hB
    generalize (((World.setCell _ _ _).setCell _ _).setCell _ _) = w9 at E ⊢
    have E1 := E.1; have E2 := E.2.1; have E3 := E.2.2.1; have E4 := hid E.2.2.2
    clear E
    go_wp2
    exact bodyPost_ret (v := .tuple #[vA, .agg #[.int .i64 m.site, .int .i64 m.fn, .slice A3 m.args.length c3], .bool true]) (by simp [results, Try.results17, go_sem, E1, E2, E3]) rfl ⟨⟨_, _, rfl, E4.out.1, ⟨_, rfl, E4.out.2.1, hokB⟩⟩, E4.out.2.2⟩
set_option maxHeartbeats 1000000 in
theorem calls_any (v : Value) (l : List CallM) (w : World) (h : RdCalls w v l) (hl : (l.length + 1) * 40 ≤ 140737488355328) : Calls Try.prog 16 #[v] w fun e w' => (∃ v', e = .returned v' ∧ OCalls w' w.heap.size v' l) ∧ Kp w w' := by
  have HL := hid h
  obtain ⟨A, c, rfl, hc⟩ := h.form
  clear h
  go_enter Try.func16, Try.ntmps16
  go_wp2
  go_loopw [3, 4] (fun v i wr => ∃ k : Nat, k ≤ l.length ∧ i = .int .i64 k ∧ OCalls wr w.heap.size v (l.take k) ∧ Kp w wr) (fun _ i _ => l.length - (intOf i).toNat)
  case atStart => exact ⟨0, by omega, rfl, ⟨[], World.ownsRow_nil _ _ _ _, rfl⟩, Kp.refl _⟩
  case round =>
    obtain ⟨k, hk, rfl, hown, hkp⟩ := hrel
    have hsz := hkp.le
    have HC := HL.out.kp hkp
    by_cases hlt : k < l.length
    · obtain ⟨m, hm⟩ : ∃ m, l[k]? = some m := ⟨l[k], List.getElem?_eq_getElem hlt⟩
      obtain ⟨b, off, rfl, hb, la, q0, q1, q2, o0, o1, o2, o3⟩ := at_call HC hm
      have HM := hid hm; have HO := hid (show okCall m from ⟨o0, o1, o2.2.1, o3⟩)
      have HR := hid o2
      obtain ⟨A2, c2, rfl⟩ := o2.form
      have i1 : (k : Int) < (l.length : Int) := by omega
      clear hm o0 o1 o2
      have HOwn := hid hown
      clear hown
      have hlen : (l.take k).length = k := by rw [List.length_take]; omega
      have tok1 : True := trivial
      go_wp2_with (first
        | (at_builtin; have _t := tok1; go_must (refine app_src elInt rfl (.const (.slice none 0 0)) (.tmp 17) rfl (World.ownsRow_nil _ (wr.heap.size + 1) _ _) rfl (m.args.map intV) _ _ _ rfl (by simp) ((HR.out.kp ((Kp.refl _).alloc _)).src).2 (oneInt _) (by unfold maxLen; omega) (by omega) (by simp) ?_); intro v1 w1 hown1 hg1 hm1 hb1; obtain ⟨A1, c1, rfl⟩ := own_form hown1; obtain ⟨hc1, hf1⟩ := below_cells hb1; clear tok1)
        | (at_builtin; have HK : Kp wr (w1.setCell ⟨wr.heap.size, 2, none⟩ (.slice A1 (0 + m.args.length) c1)) := (Below.trans ((Kp.refl wr).alloc _) (Below.mono hb1 (by simp))).setCell (Nat.le_refl _) _; obtain ⟨xs, hown2, hch⟩ := HOwn.out.kp HK; have HCh := hid hch; clear hch; rw [Nat.zero_add] at *; go_must (refine app_lit_at w1.heap.size (by simp [World.setCell]) elCall rfl (.tmp 20) (.tmp 22) rfl hown2 rfl _ _ 1 1 rfl rfl (by intro u hu; simp at hu; rcases hu with rfl | rfl | rfl <;> rfl) (by rw [hlen]; unfold maxLen; omega) (by rw [hlen]; omega) (Nat.le_trans hsz HK.le) ?_); intro v2 w2 hown3 hg2 hm2 hb2))
      have hoi : OwnI (w1.setCell ⟨wr.heap.size, 2, none⟩ (.slice A1 m.args.length c1)) (wr.heap.size + 1) (.slice A1 m.args.length c1) m.args := ownsRow_setCell_below hown1 (by simp) _
      go_roundw
      case rel => exact ⟨k + 1, by omega, by simp, by rw [← take_snoc HM.out]; exact OCalls.snoc HCh.out hown2 hg2 rfl rfl hown3 hoi (Nat.le_trans hsz (by omega)) HO.out, Below.trans (hkp.trans HK) hb2⟩
      case measure => simp [intOf]; omega
    · obtain rfl : k = l.length := by omega
      rw [List.take_length] at hown
      have i1 : ¬ ((l.length : Int) < (l.length : Int)) := by omega
      go_wp2
      go_ret
      exact ⟨⟨_, rfl, hown⟩, hkp⟩
end Go.Proofs.Ytmcidhjcimjeiaa
