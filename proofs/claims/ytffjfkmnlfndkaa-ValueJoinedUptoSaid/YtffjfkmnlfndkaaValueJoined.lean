/-
  The law ValueJoined answers true for all lists of values. Condition: their bulk is at most 1048576 (the statement's own).
-/
import Derived.SizedLaws
import Derived.Deep.CondSized
import Derived.Test.YtffjfkmnlfndkaaRows
import Derived.Test.YtffjfkmnlfndkaaLine
import Derived.Test.YtffjfkmnlfndkaaShown
namespace Go.Proofs.Ytffjfkmnlfndkaa.valueJoined
open Go.ChangeShapes Go.WideShapes Go.ChangeAt Go.RowKit
open Go.ChangeMaps (open_string shut_string)
set_option linter.unusedVariables false

theorem own : ownKnob Try.prog.godebug = none := by kernel_rfl
theorem laidOut : laidOutB Try.prog = true := by kernel_rfl


def CeOV (base : Nat) (w : World) (cs : List Value) (m : ValM) : Prop := ∃ lv, cs = [.int .i64 m.k, .int .i64 m.n, .string m.s, lv] ∧ OwnI w base lv m.l ∧ (∀ x ∈ m.l, okI x) ∧ okI m.k ∧ okI m.n ∧ m.s.size ≤ 140737488351232 ∧ m.l.length * 8 ≤ 140737488351232
def oVals (w : World) (base : Nat) (v : Value) (l : List ValM) : Prop := OwnL (CeOV base) 4 53 w base v l
theorem elVal : El Try.prog 62 53 (.agg #[.int .i64 0, .int .i64 0, .string ⟨#[]⟩, .slice none 0 0]) 4 56 := El.mk_ Try.underlying62 (by kernel_rfl) rfl (by omega)
theorem oVals.kp {w w' : World} {base : Nat} {v : Value} {l : List ValM} (h : oVals w base v l) (hk : Kp w w') : oVals w' base v l := OwnL.kp (fun _ _ _ _ hk ⟨lv, h1, h2, h3⟩ => ⟨lv, h1, ownsRow_keep h2 hk, h3⟩) h hk
theorem oVals.rd {w : World} {base : Nat} {v : Value} {l : List ValM} (h : oVals w base v l) : RdL CeVal 4 w v l := (OwnL.rd h).mono fun _ _ ⟨lv, h1, h2, h3, h4, h5, h6, h7⟩ => ⟨lv, h1, h2.rd (by omega) h3, h4, h5, h6, h7⟩
theorem oVals.snoc {w w' : World} {base B : Nat} {v v' lv : Value} {l : List ValM} {m : ValM} {n : Nat} {xs : List Value} {cs : Array Value} (hx : Chunk (CeOV base) 4 w xs l) (hown : w.ownsRow base 53 4 v l.length xs) (hg : w.grownBy w' v.ownBlock) (hcs : cs = #[.int .i64 m.k, .int .i64 m.n, .string m.s, lv]) (hn : n = l.length + 1) (h : w'.ownsRow base 53 4 v' n (xs ++ cs.toList)) (ho : OwnVal w B (.agg #[.int .i64 m.k, .int .i64 m.n, .string m.s, lv]) m) (hB : base ≤ B) : oVals w' base v' (l ++ [m]) := by
  subst hcs
  have ht := Touch.of_grown hown hg
  obtain ⟨lv', e, h0, h1⟩ := ho
  simp at e
  subst e
  exact OwnL.snoc hn hx (fun cs a ⟨lv, g1, g2, g3⟩ => ⟨lv, g1, ownsRow_touch (by decide) g2 ht, g3⟩) ⟨lv, rfl, ownsRow_touch (by decide) (own_base hB h0) ht, h1⟩ rfl h
theorem own_o (v : Value) (m : ValM) (w : World) (h : RdVal w v m) : Calls Try.prog 29 #[v] w fun e w' => ∃ A c, e = .returned (.agg #[.int .i64 m.k, .int .i64 m.n, .string m.s, .slice A m.l.length c]) ∧ OwnVal w' w.heap.size (.agg #[.int .i64 m.k, .int .i64 m.n, .string m.s, .slice A m.l.length c]) m ∧ Kp w w' := by
  refine (own_any v m w h).mono fun e w' ⟨⟨v', h1, h2⟩, h3⟩ => ?_
  obtain ⟨lv, rfl, h4, h5⟩ := h2
  obtain ⟨A, c, rfl⟩ := own_form h4
  exact ⟨A, c, h1, ⟨_, rfl, h4, h5⟩, h3⟩
theorem jn_next {l : List ValM} {k : Nat} {m : ValM} (h : l[k]? = some m) (hk : 0 < k) : (⟨(jn (l.take k)).toArray⟩ : ByteArray) ++ ⟨#[32]⟩ ++ showM m = ⟨(jn (l.take (k + 1))).toArray⟩ := by
  have hne : l.take k ≠ [] := by
    intro e
    have := congrArg List.length e
    have hk2 : k < l.length := by
      rcases Nat.lt_or_ge k l.length with h' | h'
      · exact h'
      · rw [List.getElem?_eq_none h'] at h; cases h
    rw [List.length_take, List.length_nil] at this; omega
  rw [← take_snoc h, jn_snoc _ _ hne, ← shL_str]
  congr 1
theorem jn_first {l : List ValM} {m : ValM} (h : l[0]? = some m) : (⟨#[]⟩ : ByteArray) ++ showM m = ⟨(jn (l.take 1)).toArray⟩ := by
  rw [← take_snoc h, List.take_zero, List.nil_append, jn_one, ← shL_str]
  rfl
theorem bd_take {l : List ValM} (k : Nat) : ((l.take k).map fun m => bkVal m + 1).sum ≤ (l.map fun m => bkVal m + 1).sum := by
  conv => rhs; rw [← List.take_append_drop k l]
  rw [List.map_append, List.sum_append]; omega
theorem cat_eq (x : List UInt8) : (x ++ [10] == ((⟨x.toArray⟩ : ByteArray) ++ ⟨#[10]⟩).toList) = true := by
  have e : ((⟨x.toArray⟩ : ByteArray) ++ ⟨#[10]⟩) = ⟨(x ++ [10]).toArray⟩ := by congr 1
  rw [e, toList_mk]; simp
set_option maxRecDepth 20000 in
set_option maxHeartbeats 1000000 in
theorem walk (v0 : Value) (a0 : List ValM) (w : World) (w0 : RdValsU w v0 a0) :
    Calls Try.prog 12 #[v0] w fun e w' => e = .returned (.bool true) ∧ Kp w w' := by
  obtain ⟨R0, b0⟩ := w0
  have HL := hid R0
  have HOK := hid (vals_ok R0)
  have HB := hid b0
  have hlen := sum_len bkVal a0
  have hll : a0.length ≤ 1048576 := by omega
  obtain ⟨A, c, rfl, hc⟩ := R0.form
  clear R0 b0 hlen
  go_enter Try.func12, Try.ntmps12
  go_wp2
  go_loopw [3, 4] (fun s i wr => ∃ k : Nat, k ≤ a0.length ∧ i = .int .i64 k ∧ s = .string ⟨(jn (a0.take k)).toArray⟩ ∧ Kp w wr) (fun _ i _ => a0.length - (intOf i).toNat)
  case atStart => exact ⟨0, by omega, rfl, by rw [List.take_zero, jn_nil], Kp.refl _⟩
  case round =>
    obtain ⟨k, hk, rfl, rfl, hkp⟩ := hrel
    by_cases hlt : k < a0.length
    · obtain ⟨m, hm⟩ : ∃ m, a0[k]? = some m := ⟨a0[k], List.getElem?_eq_getElem hlt⟩
      obtain ⟨b, off, rfl, hb, lv, q0, q1, q2, q3, hr⟩ := at_val (HL.out.kp CeVal.kp hkp) hm
      have hsm := sum_mem (fun m => bkVal m + 1) a0 m (List.mem_of_getElem? hm)
      have hml : m.l.length ≤ 1000000000000 := by have := HB.out; unfold bkVal at *; omega
      have hshl := sh_len m (HOK.out m (List.mem_of_getElem? hm)).1 (HOK.out m (List.mem_of_getElem? hm)).2
      have hJ := jn_len (a0.take k) (fun m hm => HOK.out m (List.mem_of_mem_take hm))
      have hbt := bd_take (l := a0) k
      have hB := HB.out
      have hsz2 : (showM m).size ≤ 25165824 := by rw [sh_size]; omega
      have hjl : (jn (a0.take k)).length ≤ 26214400 := by omega
      have j1 : ¬ 9223372036854775807 < (jn (a0.take k)).length + 1 := by omega
      have j2 : ¬ 9223372036854775807 < (jn (a0.take k)).length + 1 + (showM m).size := by omega
      have j3 : ¬ 9223372036854775807 < (showM m).size := by omega
      have HR := hid hr
      have HM := hid hm
      obtain ⟨A2, c2, rfl⟩ := hr.form
      have i1 : (k : Int) < (a0.length : Int) := by omega
      clear hm hr hsm hshl hJ hbt hB hsz2 hjl
      rcases Nat.eq_zero_or_pos k with hk0 | hk0
      · have i2 : ¬ ((0 : Int) < (k : Int)) := by omega
        have j4 : ¬ 9223372036854775807 < (jn (a0.take k)).length + (showM m).size := by omega
        have HN : Hid ((⟨(jn (a0.take k)).toArray⟩ : ByteArray) ++ showM m = ⟨(jn (a0.take (k + 1))).toArray⟩) := hid (by subst hk0; rw [List.take_zero, jn_nil]; exact jn_first HM.out)
        clear j1 j2 hk0
        go_wp2_with (first
          | (go_at_call 29; go_must (refine (own_o _ m _ HR.out).mono ?_); rintro e w1 ⟨A3, c3, rfl, ho1, hk1⟩)
          | (go_at_call 34; go_must (refine (show_any _ m _ ho1.rd hml).mono ?_); rintro e w2 ⟨rfl, hk2⟩))
        go_roundw
        case rel => exact ⟨k + 1, by omega, by simp, by rw [← HN.out], (hkp.trans hk1).trans hk2⟩
        case measure => simp [intOf]; omega
      · have i2 : (0 : Int) < (k : Int) := by omega
        have HN := hid (jn_next HM.out hk0)
        go_wp2_with (first
          | (go_at_call 29; go_must (refine (own_o _ m _ HR.out).mono ?_); rintro e w1 ⟨A3, c3, rfl, ho1, hk1⟩)
          | (go_at_call 34; go_must (refine (show_any _ m _ ho1.rd hml).mono ?_); rintro e w2 ⟨rfl, hk2⟩))
        go_roundw
        case rel => exact ⟨k + 1, by omega, by simp, by rw [← HN.out], (hkp.trans hk1).trans hk2⟩
        case measure => simp [intOf]; omega
    · obtain rfl : k = a0.length := by omega
      rw [List.take_length]
      have i1 : ¬ ((a0.length : Int) < (a0.length : Int)) := by omega
      obtain ⟨wo, hwo⟩ : ∃ wo : World, wo = wr := ⟨_, rfl⟩
      rw [← hwo] at hkp ⊢
      clear hwo
      go_wp2
      go_loopw [5, 6] (fun s i wr => ∃ k : Nat, k ≤ a0.length ∧ i = .int .i64 k ∧ oVals wr w.heap.size s (a0.take k) ∧ Kp w wr) (fun _ i _ => a0.length - (intOf i).toNat)
      case atStart => exact ⟨0, by omega, rfl, OwnL.nil _ _ _ _ _, hkp⟩
      case round =>
        obtain ⟨k, hk, rfl, hown, hkp⟩ := hrel
        have hsz := hkp.le
        have HOwn := hid hown
        have hlen : (a0.take k).length = k := by rw [List.length_take]; omega
        clear hown
        by_cases hlt : k < a0.length
        · obtain ⟨m, hm⟩ : ∃ m, a0[k]? = some m := ⟨a0[k], List.getElem?_eq_getElem hlt⟩
          obtain ⟨b, off, rfl, hb, lv, q0, q1, q2, q3, hr⟩ := at_val (HL.out.kp CeVal.kp hkp) hm
          have HR := hid hr
          have HM := hid hm
          obtain ⟨A2, c2, rfl⟩ := hr.form
          have i1 : (k : Int) < (a0.length : Int) := by omega
          have B1 : Hid ((a0.take k).length + 1 ≤ maxLen) := hid (by rw [hlen]; unfold maxLen; omega)
          have B2 : Hid (((a0.take k).length + 1) * 56 ≤ 140737488355328) := hid (by rw [hlen]; omega)
          clear hm hr
          go_wp2_with (first
            | (go_at_call 29; go_must (refine (own_o _ m _ HR.out).mono ?_); rintro e w1 ⟨A3, c3, rfl, ho1, hk1⟩; have HO1 := hid ho1; obtain ⟨xs, hown1, hch⟩ := HOwn.out.kp hk1; have HCh := hid hch; have HOwn1 := hid hown1; clear hch hown1 ho1)
            | (at_builtin; go_must (refine app_lit elVal rfl (.tmp 31) (.tmp 37) rfl HOwn1.out rfl _ _ 1 1 rfl rfl (by intro u hu; simp at hu; rcases hu with rfl | rfl | rfl | rfl <;> rfl) B1.out B2.out (Nat.le_trans hsz hk1.le) ?_); intro v2 w2 hown2 hg2 hm2 hn2 hb2))
          go_roundw
          case rel => exact ⟨k + 1, by omega, by simp, by rw [← take_snoc HM.out]; exact oVals.snoc HCh.out HOwn1.out hg2 rfl rfl hown2 HO1.out hsz, Below.trans (hkp.trans hk1) hb2⟩
          case measure => simp [intOf]; omega
        · obtain rfl : k = a0.length := by omega
          rw [List.take_length] at HOwn
          have i2 : ¬ ((a0.length : Int) < (a0.length : Int)) := by omega
          have hJ := jn_len a0 HOK.out
          have hB := HB.out
          have j1 : ¬ 9223372036854775807 < (jn a0).length + 1 := by omega
          clear hJ hB
          go_wp2_with (first
            | (go_at_call 31; go_must (refine (shown_any _).mono ?_); rintro e w1 ⟨rfl, hk1⟩)
            | (go_at_call 35; go_must (refine (line_any _ a0 _ (HOwn.out.kp hk1).rd HB.out).mono ?_); rintro e w2 ⟨rfl, hk2⟩))
          go_ret
          exact ⟨ret_bool (cat_eq _), (hkp.trans hk1).trans hk2⟩

/-! ### The row's step (the guide's frame, written by program) -/
set_option maxRecDepth 100000 in
theorem lifted (os : Os) (started : os.Started) (H : Type) (enc : TypeId × Value → H) (F : Stop.Interp) :
    ReturnsInHanded {} Try.checked os 12 .any ((Rows.OpenSpec.upto Rows.valueJoinedSpec).pre6 enc Try.prog Try.f12 Rows.valueJoinedUptoRow.domain false) (((Rows.OpenSpec.upto Rows.valueJoinedSpec).at F).post enc Try.prog Try.f12 false true false false) := by
  refine returnsInHanded_of_cond_sized (C := Try.checked) (s := Rows.OpenSpec.upto Rows.valueJoinedSpec) (k := Rows.uptoSmall) rfl own started (by kernel_rfl) Try.func12
    (OpenSpec.witness (enc := enc) (C := Try.checked) (s := Rows.OpenSpec.upto Rows.valueJoinedSpec) (k := Rows.uptoSmall) rfl false ⟨#[], #[.slice none 0 0], []⟩ 8 (by kernel_rfl) (by kernel_rfl) (by kernel_rfl)
      (x := ([.nil], [], [])) (by kernel_rfl) rfl (by kernel_rfl)) ?_
  intro W base args ds gs before hval0 hW _ hk0 hsz0 _
  have hsz : (DataW.weightsEach Try.prog (Try.f12.params.toList ++ (Rows.OpenSpec.upto Rows.valueJoinedSpec).bare.plain.varTypes Try.prog) (ds ++ gs)).all (· ≤ reachBytes) = true := hsz0
  clear hsz0
  have hval : ∀ (j : Nat) t v, Try.f12.params[j]? = some t → args[j]? = some v → Value.okWide Try.prog W .any base t v := hval0
  have hW' := hW
  obtain ⟨p, q, hA0, hV, rfl, hfz, hnd⟩ := hW
  have hA : DataW.TrodAll enc Try.prog W 0 (fun _ => true) true Try.f12.params.toList args.toList ds p := hA0
  rw [Try.params12] at hA hval hsz
  obtain ⟨v0, vs0, d0, ds0, p0, q0, hargs, rfl, rfl, h0, r0⟩ := trodAll_cons hA
  obtain ⟨rfl, rfl, rfl⟩ := trodAll_nil r0
  obtain rfl : args = #[v0] := by cases args; simp_all
  obtain ⟨rfl, rfl⟩ := trodVars_none hV
  have hbk : Rows.uptoBulkAll [d0] ≤ 1048576 := of_decide_eq_true hk0
  simp only [Rows.uptoBulkAll] at hbk
  have hb0 : Rows.uptoBulk d0 ≤ 1048576 := by omega
  clear hk0 hbk
  have k0 := h0
  have lt0 : ∀ x ∈ p0, x.block < W.heap.size := by obtain ⟨m, hm⟩ := k0; exact DataW.trod_lt m _ _ _ hm
  have hz0 : ∀ n ∈ DataW.weights Try.prog 62 d0, n ≤ reachBytes := fun n hn => by
    have := List.all_eq_true.1 hsz _ (DataW.weights_mem_each (j := 0) rfl rfl n hn)
    simpa using this
  obtain ⟨a0, w0⟩ := open_valuesU (hval 0 62 v0 rfl rfl) h0 hz0 hb0
  clear hA0 hval0
  simp only [List.append_nil] at hW'
  refine (walk v0 a0 W w0).mono fun e W' ⟨he, bel⟩ => ?_
  subst he
  exact ⟨_, rfl, _, _, _, [], _, [], hW', trodAll_mk1 (shut_bool Try.underlying4 _), (trodAll_cons_mk (Below.trod laidOut (by kernel_rfl) (of_decide_eq_true (by kernel_rfl)) k0 bel lt0) trodAll_mk0), rfl, Below.frame bel _, fun h => by cases h⟩

theorem over : Rows.valueJoinedUptoRow.holds Try.pinned (Rows.OpenSpec.upto Rows.valueJoinedSpec) :=
  OpenClaim.holds_of_cond 12 Try.f12 rfl rfl rfl rfl rfl rfl rfl ⟨rfl, rfl, rfl, rfl, rfl⟩ rfl rfl rfl rfl rfl (by kernel_rfl) Try.func12 (by kernel_rfl)
    (of_decide_eq_true (by kernel_rfl)) (by unfold Func.isWrapper; rw [if_neg (of_decide_eq_false (by kernel_rfl))]; exact ⟨rfl, rfl⟩)
    (fun os started H enc _ F => lifted os started H enc F)

/-- THE STATEMENT. -/
theorem proved : Rows.ValueJoinedUptoSaid := over
#print axioms proved

end Go.Proofs.Ytffjfkmnlfndkaa.valueJoined
