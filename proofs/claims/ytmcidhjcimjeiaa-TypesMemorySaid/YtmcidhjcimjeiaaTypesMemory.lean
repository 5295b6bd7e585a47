/-
  The law TypesMemory answers true for every text. No condition.
-/
import Derived.SizedLaws
import Derived.Deep.CondSized
import Derived.Test.YtmcidhjcimjeiaaRows
import Derived.Test.YtmcidhjcimjeiaaTypesH
import Derived.Test.YtmcidhjcimjeiaaStrArg
import Derived.Test.YtmcidhjcimjeiaaRoomy
namespace Go.Proofs.Ytmcidhjcimjeiaa.typesMemory
open Go.ChangeShapes Go.WideShapes Go.ChangeAt Go.RowKit
open Go.ChangeMaps (open_string shut_string)
set_option linter.unusedVariables false

theorem own : ownKnob Try.prog.godebug = none := by kernel_rfl
theorem laidOut : laidOutB Try.prog = true := by kernel_rfl


theorem rds_at {w : World} {A : Option Addr} {n c : Nat} {l : List ByteArray} {i : Nat} {x : ByteArray} (h : RdS w (.slice A n c) l) (hi : l[i]? = some x) : ∃ b off, A = some ⟨b, off, none⟩ ∧ b < w.heap.size ∧ w.cell? ⟨b, off + i, none⟩ = some (.string x) := by
  obtain ⟨_, _, e, _, hc⟩ := h
  cases e
  exact hc i x hi
theorem const_int : partsM [102, 117, 110, 99, 40, 105, 110, 116, 41] = some ([[105, 110, 116]] ++ [[]]) := by decide +kernel
def psM : Option (List Bs) → List ByteArray | none => [] | some l => l.dropLast.map bsB
def codeM : Option (List Bs) → Int | none => 9 | some _ => 0
theorem ps_len (t : Bs) : (psM (partsM t)).length ≤ 4 := by
  cases h : partsM t with
  | none => simp [psM]
  | some qs =>
    obtain ⟨ps, q, rfl, h4, _⟩ := parts_back h
    simp [psM]; omega
theorem params_own (w : World) (S : ByteArray) (hS : S.size ≤ 140737488351232) : Calls Try.prog 35 #[.string S] w fun e w' => ∃ v, e = .returned (.tuple #[v, .int .i64 (codeM (partsM S.data.toList))]) ∧ OwnS w' w.heap.size v (psM (partsM S.data.toList)) ∧ Kp w w' := by
  refine (params_any w S hS).mono ?_
  intro e w' h
  cases hz : partsM S.data.toList with
  | none =>
    rw [hz] at h
    obtain ⟨h1, h2⟩ := h.no rfl
    exact ⟨_, h1, OwnS.nil _ _, h2⟩
  | some qs =>
    obtain ⟨ps, q, rfl, _⟩ := parts_back hz
    rw [hz] at h
    obtain ⟨v, h1, h2, h3, _⟩ := h.yes rfl
    exact ⟨v, h1, by simpa [psM] using h2, h3⟩
/-- The blocks from lo on and below hi are as they were. -/
def Mid (lo hi : Nat) (w w' : World) : Prop := (∀ k, lo ≤ k → k < hi → w'.heap[k]? = w.heap[k]?) ∧ w.heap.size ≤ w'.heap.size
theorem Mid.refl (lo hi : Nat) (w : World) : Mid lo hi w w := ⟨fun _ _ _ => rfl, Nat.le_refl _⟩
theorem Mid.trans {lo hi : Nat} {a b c : World} (h : Mid lo hi a b) (k : Mid lo hi b c) : Mid lo hi a c := ⟨fun i h1 h2 => (k.1 i h1 h2).trans (h.1 i h1 h2), Nat.le_trans h.2 k.2⟩
theorem Mid.of_grown {lo hi : Nat} {w w' : World} {o : Option Nat} (h : w.grownBy w' o) (hh : hi ≤ w.heap.size) (ho : ∀ k, o = some k → k < lo) : Mid lo hi w w' :=
  ⟨fun k h1 h2 => h.block k (by omega) (fun he => by have := ho k he.symm; omega), h.size⟩
theorem Mid.setCell {lo hi : Nat} {w w' : World} (h : Mid lo hi w w') {g i : Nat} (hg : g < lo ∨ hi ≤ g) (v : Value) : Mid lo hi w (w'.setCell ⟨g, i, none⟩ v) := by
  refine ⟨fun k h1 h2 => ?_, by simpa using h.2⟩
  have hne : k ≠ g := by omega
  rw [← h.1 k h1 h2]
  simp [World.setCell, Array.getElem?_modify, Ne.symm hne]
theorem OwnS.mid {lo hi : Nat} {w w' : World} {v : Value} {l : List ByteArray} (h : OwnS w lo v l) (hh : w.heap.size ≤ hi) (hm : Mid lo hi w w') : OwnS w' lo v l := by
  obtain ⟨h1, h2⟩ := h
  refine ⟨h1, ?_⟩
  rcases h2 with h2 | ⟨g, cap, cur, hv, hb, hg, r⟩
  · exact .inl h2
  · refine .inr ⟨g, cap, cur, hv, hb, ?_, r⟩
    have hlt : g < w.heap.size := (Array.getElem?_eq_some_iff.1 hg).1
    rw [hm.1 g hb (by omega)]; exact hg
theorem owns_set {w : World} {base g i : Nat} {xs : List ByteArray} {cap : Nat} (h : OwnS w base (.slice (some ⟨g, 0, none⟩) xs.length cap) xs) (hi : i < xs.length) (x : ByteArray) : OwnS (w.setCell ⟨g, i, none⟩ (.string x)) base (.slice (some ⟨g, 0, none⟩) (xs.set i x).length cap) (xs.set i x) := by
  obtain ⟨h1, h2⟩ := h
  refine ⟨by simp, .inr ?_⟩
  rcases h2 with ⟨h2, _⟩ | ⟨g', cap', cur, hv, hb, hg, hnc, hm, hsz, htk⟩
  · cases h2
  · cases hv
    have hg' : w.heap[g]? = some (.cells (cur.toList).toArray 9 (0, 0)) := by rw [Array.toArray_toList]; exact hg
    refine ⟨g, cap, (cur.toList.set i (.string x)).toArray, by rw [List.length_set], hb, heap_set hg' i _, by simpa using hnc, hm, by simpa using hsz, ?_⟩
    rw [Nat.mul_one] at htk ⊢
    rw [List.length_set]
    show (cur.toList.set i (.string x)).take xs.length = _
    rw [List.take_set, htk, List.map_set]
theorem rows_head {w : World} {base n : Nat} {v : Value} {xs : List Value} (h : w.ownsRow base 9 1 v (n + 2) xs) : ∃ g c, v = .slice (some ⟨g, 0, none⟩) (n + 2) c ∧ base ≤ g ∧ n + 2 ≤ c ∧ w.cell? ⟨g, 0, none⟩ = some (cellD w g 0) ∧ w.frozen? ⟨g, 0, none⟩ = false := by
  rcases h.2 with ⟨_, h2⟩ | ⟨g, cap, cur, hv, hb, hg, hnc, hm, hsz, _⟩
  · omega
  · refine ⟨g, cap, hv, hb, hnc, ?_⟩
    exact BoxAt.mk_ (v := cur[0]'(by omega)) (by simp [World.cell?, hg]) (by simp [World.frozen?, hg])
set_option maxRecDepth 20000 in
set_option maxHeartbeats 4000000 in
theorem walk (a0 : ByteArray) (w : World) (w0 : a0.size ≤ 140737488351232) :
    Calls Try.prog 11 #[.string a0] w fun e w' => e = .returned (.bool true) ∧ Kp w w' := by
  have hS := w0
  clear w0
  obtain ⟨la, hla⟩ : ∃ la, psM (partsM a0.data.toList) = la := ⟨_, rfl⟩
  obtain ⟨ce, hce⟩ : ∃ ce, codeM (partsM a0.data.toList) = ce := ⟨_, rfl⟩
  obtain ⟨n, hn⟩ : ∃ n, la.length = n := ⟨_, rfl⟩
  have h4 : n ≤ 4 := by rw [← hn, ← hla]; exact ps_len _
  have hpp : ∀ u : World, Calls Try.prog 35 #[.string a0] u fun e u' => ∃ v, e = .returned (.tuple #[v, .int .i64 ce]) ∧ OwnS u' u.heap.size v la ∧ Kp u u' := fun u => by
    have := params_own u a0 hS; rw [hla, hce] at this; exact this
  have hpx : ∀ u : World, Calls Try.prog 35 #[.string ⟨#[102, 117, 110, 99, 40, 105, 110, 116, 41]⟩] u fun e u' => ∃ v, e = .returned (.tuple #[v, .int .i64 0]) ∧ OwnS u' u.heap.size v [⟨#[105, 110, 116]⟩] ∧ Kp u u' := fun u => by
    have := params_own u ⟨#[102, 117, 110, 99, 40, 105, 110, 116, 41]⟩ (by decide)
    rw [show (ByteArray.mk #[102, 117, 110, 99, 40, 105, 110, 116, 41]).data.toList = [102, 117, 110, 99, 40, 105, 110, 116, 41] from rfl, const_int] at this
    exact this
  have HPP := hid hpp; have HPX := hid hpx; have HN := hid hn
  clear hpp hpx hla hce hS
  go_enter Try.func11, Try.ntmps11
  go_wp2_with fail
  refine (HPP.out _).mono ?_
  rintro e w1 ⟨va, rfl, ha, k1⟩
  obtain ⟨A, c, rfl⟩ := own_form ha
  have HAl : Hid (∀ g, (Value.slice A n c).ownBlock = some g → w.heap.size ≤ g ∧ g < w1.heap.size) := hid (by rw [← hn]; exact fun g hg => ha.lt g hg)
  have HA := hid ha
  rw [hn] at HA ⊢
  clear ha
  go_wp2_with fail
  refine (HPP.out _).mono ?_
  rintro e w2 ⟨vb, rfl, hb, k2⟩
  obtain ⟨B, cb, rfl⟩ := own_form hb
  have HB := hid hb
  rw [hn] at HB ⊢
  clear hb
  go_wp2_with fail
  refine (HPX.out _).mono ?_
  rintro e w3 ⟨vx, rfl, hx, k3⟩
  obtain ⟨X, cx, rfl⟩ := own_form hx
  clear hx
  have HB3 : Hid (OwnS w3 w1.heap.size (.slice B n cb) la) := hid (HB.out.kp k3)
  have HA3 : Hid (OwnS w3 w.heap.size (.slice A n c) la) := hid ((HA.out.kp k2).kp k3)
  have K3 : Hid (Kp w w3) := hid ((k1.trans k2).trans k3)
  have hle1 : w.heap.size ≤ w1.heap.size := k1.le
  have hle3 : w1.heap.size ≤ w3.heap.size := Nat.le_trans k2.le k3.le
  clear k1 k2 k3 HA HB
  have hnl : (la.map Value.string).length = n * 1 := by rw [List.length_map, HN.out, Nat.mul_one]
  have HNL := hid hnl
  clear hnl hn
  go_wp2_with (at_builtin; go_must (refine app_src (base := w3.heap.size) elStr rfl (.const (.slice none 0 0)) (.tmp 41) rfl (OwnS.nil _ _) rfl (la.map Value.string) B n cb rfl HNL.out (fun h => (RdS.src (rd_own (by have := HB3.out; rw [← HN.out] at this; exact this))).2 (by rw [HN.out]; exact h)) (oneStr _) (by simp; unfold maxLen; omega) (by simp; omega) (Nat.le_refl _) ?_); intro v4 w4 ho hg hm hbl)
  have HW4 : Hid (OwnS w4 w3.heap.size v4 la) := hid (by unfold OwnS; rw [HN.out]; simpa using ho)
  obtain ⟨W, cw, hv4⟩ := own_form HW4.out
  rw [HN.out] at hv4
  subst hv4
  have HB4 : Hid (OwnS w4 w1.heap.size (.slice B n cb) la) := hid (HB3.out.kp hbl)
  have HA4 : Hid (OwnS w4 w.heap.size (.slice A n c) la) := hid (HA3.out.kp hbl)
  have K4 : Hid (Kp w w4) := hid (K3.out.trans hbl)
  have hle4 : w3.heap.size ≤ w4.heap.size := hbl.size
  clear ho hg hm hbl HB3 HA3 K3
  have HW4' : Hid (OwnS w4 w1.heap.size (.slice W n cw) la) := hid (own_base hle3 HW4.out)
  clear HW4
  obtain ⟨lo, hlo⟩ : ∃ lo, w1.heap.size = lo := ⟨_, rfl⟩
  rw [hlo] at HAl HB4 HW4' hle1 hle3
  clear hlo
  go_wp2
  go_loopw [10] (fun i wr => ∃ (k : Nat) (ys : List ByteArray), k ≤ n ∧ i = .int .i64 k ∧ ys.length = n ∧ OwnS wr w.heap.size (.slice A n c) ys ∧ Mid lo w4.heap.size w4 wr ∧ Kp w wr) (fun i _ => n - (intOf i).toNat)
  case atStart => exact ⟨0, la, by omega, rfl, HN.out, HA4.out, Mid.refl _ _ _, K4.out⟩
  case round =>
    obtain ⟨k, ys, hk, rfl, hys, ho, hmid, hkp⟩ := hrel
    by_cases hlt : k < n
    · have i1 : (k : Int) < (n : Int) := by omega
      have HO1 := hid ho
      rcases ho.2 with ⟨h2, _⟩ | ⟨g, cap, cur, hv, hbg, hg, hnc, hm, hsz, htk⟩
      · exfalso; injection h2 with _ h3 _; omega
      · injection hv with e1 e2 e3
        subst e1
        subst e3
        have hcl : wr.cell? ⟨g, k, none⟩ = some (.string (ys.getD k ⟨#[]⟩)) := by
          have h3 : cur.toList[k]? = (ys.map Value.string)[k]? := by rw [← htk, List.getElem?_take, if_pos (by omega)]
          rw [Array.getElem?_toList] at h3
          simp [World.cell?, hg, h3, List.getD, List.getElem?_eq_getElem (show k < ys.length by omega)]
        have hfr : wr.frozen? ⟨g, k, none⟩ = false := by simp [World.frozen?, hg]
        have hgl := HAl.out g (by simp [Value.ownBlock])
        have HW : Hid (OwnS (wr.setCell ⟨g, k, none⟩ (.string ⟨#[63]⟩)) w.heap.size (.slice (some ⟨g, 0, none⟩) n c) (ys.set k ⟨#[63]⟩)) := hid (by
          have h4 := HO1.out
          rw [← hys] at h4
          have := owns_set h4 (show k < ys.length by omega) ⟨#[63]⟩
          rw [List.length_set, hys] at this
          exact this)
        have HK : Hid (Kp w (wr.setCell ⟨g, k, none⟩ (.string ⟨#[63]⟩))) := hid (Below.setCell hkp hbg _)
        have HM : Hid (Mid lo w4.heap.size w4 (wr.setCell ⟨g, k, none⟩ (.string ⟨#[63]⟩))) := hid (hmid.setCell (.inl hgl.2) _)
        clear hg hm hsz htk hnc e2 HO1 ho hgl hmid hkp
        go_wp2
        go_roundw
        case rel => exact ⟨k + 1, _, by omega, by simp, by rw [List.length_set]; exact hys, HW.out, HM.out, HK.out⟩
        case measure => simp [intOf]; omega
    · obtain rfl : k = n := by omega
      have i1 : ¬ ((k : Int) < (k : Int)) := by omega
      have HO1 : Hid (wr.ownsRow w.heap.size 9 1 (.slice A k c) k (ys.map Value.string)) := hid (by unfold OwnS at ho; rw [hys] at ho; exact ho)
      have b3 : w.heap.size ≤ wr.heap.size := hkp.le
      have HM := hid hmid; have HK := hid hkp
      have hsz4 : w4.heap.size ≤ wr.heap.size := hmid.2
      have HY := hid hys
      clear ho hys hmid hkp
      go_wp2_with (at_builtin; go_must (refine app_lit elStr rfl (.tmp 52) (.tmp 53) rfl HO1.out rfl _ _ 2 2 rfl rfl (by intro u hu; simp at hu; rcases hu with rfl | rfl <;> rfl) (by unfold maxLen; omega) (by omega) b3 ?_); intro v5 w5 hown5 hg5 hm5 hn5 hb5; have hcell : ∃ g2 c2, v5 = .slice (some ⟨g2, 0, none⟩) (k + 2) c2 ∧ w.heap.size ≤ g2 ∧ k + 2 ≤ c2 ∧ w5.cell? ⟨g2, 0, none⟩ = some (cellD w5 g2 0) ∧ w5.frozen? ⟨g2, 0, none⟩ = false := rows_head hown5; obtain ⟨g2, c2, rfl, hbg2, hn2c, hc2, hf2⟩ := hcell)
      have hg2 : g2 < lo ∨ w4.heap.size ≤ g2 := by
        rcases hm5 with h | ⟨j, h, h'⟩
        · exact .inl (HAl.out g2 (by rw [← h]; simp [Value.ownBlock])).2
        · simp [Value.ownBlock] at h; omega
      have HM5 : Hid (Mid lo w4.heap.size w4 (w5.setCell ⟨g2, 0, none⟩ (.string ⟨#[33]⟩))) := hid ((HM.out.trans (Mid.of_grown hg5 hsz4 (fun j hj => (HAl.out j hj).2))).setCell hg2 _)
      have HK5 : Hid (Kp w (w5.setCell ⟨g2, 0, none⟩ (.string ⟨#[33]⟩))) := hid (Below.setCell (Below.trans HK.out hb5) hbg2 _)
      have i0 : (0 : Int) < ((k + 2 : Nat) : Int) := by omega
      clear hown5 hg5 hm5 hn5 hb5 HM HK HO1 hg2
      go_wp2
      obtain ⟨w6, hw6⟩ : ∃ w6, w5.setCell ⟨g2, 0, none⟩ (.string ⟨#[33]⟩) = w6 := ⟨_, rfl⟩
      rw [hw6] at HM5 HK5 ⊢
      clear hw6 hc2 hf2
      have HRB : Hid (RdS w6 (.slice B k cb) la) := hid (by have := rd_own (w := w6) (base := lo) (v := .slice B k cb) (l := la) (OwnS.mid HB4.out (Nat.le_refl _) HM5.out); exact this)
      have HRW : Hid (RdS w6 (.slice W k cw) la) := hid (rd_own (OwnS.mid HW4'.out (Nat.le_refl _) HM5.out))
      go_loopw [11] (fun i wr => ∃ j : Nat, j ≤ k ∧ i = .int .i64 j ∧ Kp w6 wr) (fun i _ => k - (intOf i).toNat)
      case atStart => exact ⟨0, by omega, rfl, Kp.refl _⟩
      case round =>
        obtain ⟨j, hj, rfl, hkp⟩ := hrel
        by_cases hlt : j < k
        · have hlt2 : j < la.length := by rw [HN.out]; exact hlt
          obtain ⟨x, hx⟩ : ∃ x, la[j]? = some x := ⟨la[j], List.getElem?_eq_getElem hlt2⟩
          obtain ⟨b1, o1, rfl, hb1, q1⟩ := rds_at (HRB.out.kp hkp) hx
          obtain ⟨b2, o2, rfl, hb2, q2⟩ := rds_at (HRW.out.kp hkp) hx
          have j1 : (j : Int) < (k : Int) := by omega
          have j0 : (0 : Int) ≤ (j : Int) := by omega
          have bx2 : (x.toList != x.toList) = false := by simp
          have HKP := hid hkp
          clear hx hkp hlt2
          go_wp2
          go_quiet (fail)
          go_wp2
          go_roundw
          case rel => exact ⟨j + 1, by omega, by simp, HKP.out.drewN _⟩
          case measure => simp [intOf]; omega
        · have j1 : ¬ ((j : Int) < (k : Int)) := by omega
          have HKP := hid (Kp.trans HK5.out hkp)
          clear hkp
          go_wp2
          go_ret
          exact ⟨rfl, HKP.out⟩

/-! ### The row's step (the guide's frame, written by program) -/
set_option maxRecDepth 100000 in
theorem lifted (os : Os) (started : os.Started) (H : Type) (enc : TypeId × Value → H) :
    ReturnsInHanded {} Try.checked os 11 .any (Rows.typesMemorySpec.pre6 enc Try.prog Try.f11 Rows.typesMemoryRow.domain false) (Rows.typesMemorySpec.post enc Try.prog Try.f11 false true false false) := by
  refine returnsInHanded_of_change_sized (C := Try.checked) own started (by kernel_rfl) Try.func11
    (ChangeSpec.witness6 (enc := enc) (C := Try.checked) false ⟨#[], #[.string ⟨#[]⟩], []⟩ 8 (by kernel_rfl) (by kernel_rfl) (by kernel_rfl) (by kernel_rfl)) ?_
  intro W base args ds gs before hval0 hW _ hsz0 _
  have hsz : (DataW.weightsEach Try.prog (Try.f11.params.toList ++ Rows.typesMemorySpec.plain.varTypes Try.prog) (ds ++ gs)).all (· ≤ reachBytes) = true := hsz0
  clear hsz0
  have hval : ∀ (j : Nat) t v, Try.f11.params[j]? = some t → args[j]? = some v → Value.okWide Try.prog W .any base t v := hval0
  have hW' := hW
  obtain ⟨p, q, hA0, hV, rfl, hfz, hnd⟩ := hW
  have hA : DataW.TrodAll enc Try.prog W 0 (fun _ => true) true Try.f11.params.toList args.toList ds p := hA0
  rw [Try.params11] at hA hval hsz
  obtain ⟨v0, vs0, d0, ds0, p0, q0, hargs, rfl, rfl, h0, r0⟩ := trodAll_cons hA
  obtain ⟨rfl, rfl, rfl⟩ := trodAll_nil r0
  obtain rfl : args = #[v0] := by cases args; simp_all
  obtain ⟨rfl, rfl⟩ := trodVars_none hV
  have k0 := h0
  have lt0 : ∀ x ∈ p0, x.block < W.heap.size := by obtain ⟨m, hm⟩ := k0; exact DataW.trod_lt m _ _ _ hm
  have hz0 : ∀ n ∈ DataW.weights Try.prog 9 d0, n ≤ reachBytes := fun n hn => by
    have := List.all_eq_true.1 hsz _ (DataW.weights_mem_each (j := 0) rfl rfl n hn)
    simpa using this
  obtain ⟨a0, rfl, rfl, rfl, ws0⟩ := open_string Try.underlying9 (hval 0 9 v0 rfl rfl) h0
  have w0 : a0.size ≤ 140737488351232 := by
    have h := hz0 a0.data.toList.length (by simp [DataW.weights])
    rw [Array.length_toList] at h; exact h
  clear hA0 hval0
  simp only [List.append_nil] at hW'
  refine (walk a0 W w0).mono fun e W' ⟨he, bel⟩ => ?_
  subst he
  exact ⟨_, rfl, _, _, _, [], _, [], hW', trodAll_mk1 (shut_bool Try.underlying4 _), (trodAll_cons_mk (Below.trod laidOut (by kernel_rfl) (of_decide_eq_true (by kernel_rfl)) k0 bel lt0) trodAll_mk0), rfl, Below.frame bel _, fun h => by cases h⟩

theorem over : Rows.typesMemoryRow.holds Try.pinned (OpenSpec.ofChange Rows.typesMemorySpec) :=
  OpenClaim.holds_of_wide 11 Try.f11 rfl rfl rfl rfl rfl rfl rfl ⟨rfl, rfl, rfl, rfl, rfl⟩ rfl rfl rfl rfl rfl (by kernel_rfl) Try.func11 (by kernel_rfl)
    (of_decide_eq_true (by kernel_rfl)) (by unfold Func.isWrapper; rw [if_neg (of_decide_eq_false (by kernel_rfl))]; exact ⟨rfl, rfl⟩)
    (fun os started H enc _ => lifted os started H enc)

/-- THE STATEMENT. -/
theorem proved : Rows.TypesMemorySaid := over
#print axioms proved

end Go.Proofs.Ytmcidhjcimjeiaa.typesMemory
