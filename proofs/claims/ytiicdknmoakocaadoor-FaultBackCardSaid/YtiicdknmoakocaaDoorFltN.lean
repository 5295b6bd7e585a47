/-
  Package fault: numbers. Condition: the text and the form are short; a global number of the library is there.
-/
import Derived.Test.YtiicdknmoakocaaDoorFltP
import Derived.Test.YtiicdknmoakocaaDoorShelf
import Derived.Test.YtiicdknmoakocaaDoorInts
import Derived.Test.YtiicdknmoakocaaDoorOwnL
import Derived.Lib.SplitLaws
namespace Go.Proofs.YtiicdknmoakocaaDoor
open Go.RowKit
set_option linter.unusedVariables false
set_option linter.unusedSimpArgs false

theorem read_o (s : ByteArray) (w : World) (hm : s.size ≤ 1000000) : Calls Tryd.prog 42 #[.string s] w fun e w' => e = .returned (.tuple #[.int .i64 ((readO s.data.toList).getD 0), .int .i64 (if (readO s.data.toList).isSome then 0 else 3)]) ∧ Kp w w' := by
  cases h : readO s.data.toList with
  | some v =>
    obtain ⟨hv, e⟩ := readO_some h
    have es : s = ⟨(Lib.itoa v).toArray⟩ := by rw [e]
    rw [es]
    exact read_hit v w hv
  | none =>
    refine read_miss s w (fun n h1 => ?_) (by unfold maxLen; omega)
    rw [beq_eq_false_iff_ne, ByteArray.toList_eq]
    exact readO_none h n h1
theorem num_none {PS : List (List UInt8)} {s : List UInt8} (h : scanM PS true s [] = none) : (numbersM PS s).isSome = false := by
  unfold numbersM; rw [h]; rfl
theorem cp_any (s p : ByteArray) (w : World) : Calls Tryd.prog 37 #[.string s, .string p] w fun e w' => (p.data.toList.isPrefixOf s.data.toList = true ∧ e = .returned (.tuple #[.string ⟨(s.data.toList.drop p.data.toList.length).toArray⟩, .bool true]) ∨ p.data.toList.isPrefixOf s.data.toList = false ∧ e = .returned (.tuple #[.string s, .bool false])) ∧ w = w' := by
  refine (Tryd.strings_CutPrefix s p w).mono ?_
  rintro e w' ⟨rfl, rfl⟩
  refine ⟨?_, rfl⟩
  unfold Lib.trimPrefix Lib.hasPrefix
  cases h : p.data.toList.isPrefixOf s.data.toList
  · exact .inr ⟨rfl, by simp⟩
  · exact .inl ⟨rfl, by simp⟩
/-- The loop's state. -/
structure NmI (PS : List (List UInt8)) (s : List UInt8) (w w1 : World) (k : Nat) (S : ByteArray) (lv : Value) (acc : List Int) (wr : World) : Prop where
  sz : S.size ≤ 1000000
  own : OwnI wr w1.heap.size lv acc
  len : acc.length ≤ k
  ok : ∀ x ∈ acc, okI x
  eq : scanM PS true s [] = scanM (PS.drop k) (decide (k = 0)) S.data.toList acc
  kq : Kp w1 wr
theorem cp_hit (s p : ByteArray) (w : World) (h : p.data.toList.isPrefixOf s.data.toList = true) : Calls Tryd.prog 37 #[.string s, .string p] w fun e w' => e = .returned (.tuple #[.string ⟨(s.data.toList.drop p.data.toList.length).toArray⟩, .bool true]) ∧ w = w' := by
  refine (cp_any s p w).mono ?_
  rintro e w' ⟨⟨_, rfl⟩ | ⟨h2, _⟩, rfl⟩
  · exact ⟨rfl, rfl⟩
  · rw [h] at h2; cases h2
theorem cp_miss (s p : ByteArray) (w : World) (h : p.data.toList.isPrefixOf s.data.toList = false) : Calls Tryd.prog 37 #[.string s, .string p] w fun e w' => e = .returned (.tuple #[.string s, .bool false]) ∧ w = w' := by
  refine (cp_any s p w).mono ?_
  rintro e w' ⟨⟨h2, _⟩ | ⟨_, rfl⟩, rfl⟩
  · rw [h] at h2; cases h2
  · exact ⟨rfl, rfl⟩
def NmPost (PS : List (List UInt8)) (s : List UInt8) (w : World) (e : Ending) (w' : World) : Prop := (∃ A n c, e = .returned (.tuple #[.slice A n c, .bool (numbersM PS s).isSome]) ∧ ∀ l, numbersM PS s = some l → RdInts w' (.slice A n c) l) ∧ Kp w w'
theorem nm_fail {PS : List (List UInt8)} {s : List UInt8} {w w' : World} (h : scanM PS true s [] = none) (hk : Kp w w') : NmPost PS s w (.returned (.tuple #[.slice none 0 0, .bool false])) w' := by
  have hn := num_none h
  refine ⟨⟨none, 0, 0, by rw [hn], fun l hl => ?_⟩, hk⟩
  rw [hl] at hn; cases hn
theorem nm_step1 {PS : List (List UInt8)} {s x : List UInt8} {w w1 wr : World} {k : Nat} {S : ByteArray} {lv : Value} {acc : List Int} (h : NmI PS s w w1 k S lv acc wr) (hk : k = 0) (hx : PS.drop k = x :: PS.drop (k + 1)) (hp : x.isPrefixOf S.data.toList = true) : NmI PS s w w1 (k + 1) ⟨(S.data.toList.drop x.length).toArray⟩ lv acc wr := by
  obtain ⟨h1, h2, h3, h4, h5, h7⟩ := h
  refine ⟨?_, h2, by omega, h4, ?_, h7⟩
  · have hz : S.data.toList.length = S.size := by rw [Array.length_toList]; rfl
    show (S.data.toList.drop x.length).toArray.size ≤ _
    rw [List.size_toArray, List.length_drop, hz]; omega
  · rw [h5, hx, show decide (k = 0) = true by simp [hk], show decide (k + 1 = 0) = false by simp, scanM, if_pos hp]
theorem nm_step2 {PS : List (List UInt8)} {s x : List UInt8} {w w1 wr u : World} {k : Nat} {S : ByteArray} {lv lv' : Value} {acc : List Int} {v : Int} {d : List UInt8} (h : NmI PS s w w1 k S lv acc wr) (hk : k ≠ 0) (hx : PS.drop k = x :: PS.drop (k + 1)) (hd : S.data.toList.takeWhile isNum = d) (hv : readO d = some v) (hp : x.isPrefixOf (S.data.toList.drop d.length) = true) (ho : OwnI u w1.heap.size lv' (acc ++ [v])) (hq : Kp w1 u) : NmI PS s w w1 (k + 1) ⟨((S.data.toList.drop d.length).drop x.length).toArray⟩ lv' (acc ++ [v]) u := by
  obtain ⟨h1, h2, h3, h4, h5, h7⟩ := h
  refine ⟨?_, ho, by simp; omega, fun y hy => ?_, ?_, hq⟩
  · have hz : S.data.toList.length = S.size := by rw [Array.length_toList]; rfl
    show ((S.data.toList.drop d.length).drop x.length).toArray.size ≤ _
    rw [List.size_toArray, List.length_drop, List.length_drop, hz]; omega
  · rcases List.mem_append.1 hy with hy | hy
    · exact h4 y hy
    · rw [List.mem_singleton] at hy; subst hy; exact (readO_some hv).1
  · rw [h5, hx, show decide (k = 0) = false by simp [hk], show decide (k + 1 = 0) = false by simp, scanM, hd, hv]
    show (if x.isPrefixOf (S.data.toList.drop d.length) then _ else _) = _
    rw [if_pos hp]
theorem nm_round {PS : List (List UInt8)} {s : List UInt8} {w w1 u : World} {k : Nat} {S : ByteArray} {lv : Value} {acc : List Int} (hlt : k < PS.length) (h : NmI PS s w w1 (k + 1) S lv acc u) :
    (∃ (k' : Nat) (S' : ByteArray) (acc' : List Int), k' ≤ PS.length ∧ Value.int .i64 ((k : Int) + 1) = .int .i64 (k' : Int) ∧ Value.string S = .string S' ∧ NmI PS s w w1 k' S' lv acc' u) ∧ PS.length - (intOf (.int .i64 ((k : Int) + 1))).toNat < PS.length - (intOf (.int .i64 (k : Int))).toNat :=
  ⟨⟨k + 1, S, acc, hlt, by congr 1, rfl, h⟩, by simp only [intOf]; omega⟩
theorem tw_all {S : ByteArray} {j : Nat} (hj : j ≤ S.size) (ha : (S.data.toList.take j).all isNum = true) (hn : ∀ h : j < S.size, isNum S[j] = false) : S.data.toList.takeWhile isNum = S.data.toList.take j := by
  have hz : S.data.toList.length = S.size := by rw [Array.length_toList]; rfl
  conv => lhs; rw [← List.take_append_drop j S.data.toList]
  rw [List.takeWhile_append_of_pos (fun c hc => List.all_eq_true.1 ha c hc)]
  have : (S.data.toList.drop j).takeWhile isNum = [] := by
    by_cases h : j < S.size
    · rw [List.drop_eq_getElem_cons (by omega), List.takeWhile_cons]
      have h2 : S.data.toList[j]'(by omega) = S[j] := by simp; rfl
      rw [h2, hn h]; rfl
    · rw [List.drop_eq_nil_of_le (by omega)]; rfl
  rw [this, List.append_nil]
theorem all_next {S : ByteArray} {j : Nat} (hj : j < S.size) (ha : (S.data.toList.take j).all isNum = true) (hc : isNum S[j] = true) : (S.data.toList.take (j + 1)).all isNum = true := by
  have hz : S.data.toList.length = S.size := by rw [Array.length_toList]; rfl
  rw [List.take_succ_eq_append_getElem (by omega), List.all_append, ha]
  have h2 : S.data.toList[j]'(by omega) = S[j] := by simp; rfl
  rw [h2]
  simp [hc]
theorem own_len {w : World} {b c : Nat} {A : Option Addr} {acc : List Int} {v : Int} (h : OwnI w b (.slice A (acc ++ [v]).length c) (acc ++ [v])) : OwnI w b (.slice A (acc.length + 1) c) (acc ++ [v]) := by
  rw [List.length_append] at h; exact h
theorem own_snoc {w' : World} {base : Nat} {v' : Value} {acc : List Int} {v : Int} (h : w'.ownsRow base 3 1 v' (acc.length + 1) (acc.map intV ++ (#[Value.int .i64 v] : Array Value).toList)) : OwnI w' base v' (acc ++ [v]) := by
  unfold OwnI
  rw [List.length_append, List.map_append]
  exact h
set_option maxRecDepth 20000 in
set_option maxHeartbeats 8000000 in
theorem numbers_any (s form : ByteArray) (PS : List (List UInt8)) (hPS : (Lib.splitB ⟨#[35]⟩ 0 (Lib.countB form ⟨#[35]⟩) form).map (·.data.toList) = PS) (hl : PS.length ≤ 100) (hne : PS ≠ []) (hs : s.size ≤ 1000000) (hf : form.size < 1000) (m : Int) (w : World) (hm : w.cell? ⟨0, 0, none⟩ = some (.int .i64 m)) :
    Calls Tryd.prog 28 #[.string s, .string form] w (NmPost PS s.data.toList w) := by
  have hcl : (Lib.splitB ⟨#[35]⟩ 0 (Lib.countB form ⟨#[35]⟩) form).length = Lib.countB form ⟨#[35]⟩ + 1 := Lib.splitB_all ⟨#[35]⟩ (by decide) 0 _ form rfl
  have HSP := hid (Tryd.strings_Split form ⟨#[35]⟩ m w (by omega) hm (by decide))
  generalize Lib.splitB ⟨#[35]⟩ 0 (Lib.countB form ⟨#[35]⟩) form = P at hPS hcl HSP
  have hPL : P.length = PS.length := by rw [← hPS, List.length_map]
  rw [← hcl, hPL] at HSP
  have HPS := hid hPS; have HLL := hid hl; have HPL := hid hPL
  have HC := hid (show ∀ j x, P[j]? = some x → (w.alloc (.cells (P.map Value.string).toArray 9)).cell? ⟨w.heap.size, j, none⟩ = some (.string x) from fun j x h => by
    have hb := blk_new w (.cells (P.map Value.string).toArray 9)
    exact blk_cell hb (by rw [List.getElem?_toArray, List.getElem?_map, h]; rfl))
  have HKA := hid (show Kp w (w.alloc (.cells (P.map Value.string).toArray 9)) from (Kp.refl w).alloc _)
  have HLA := hid (show w.heap.size < (w.alloc (.cells (P.map Value.string).toArray 9)).heap.size by simp)
  have HS0 := hid hs
  clear hPS hcl hPL hm hf hs hl
  go_enter Tryd.func28, Tryd.ntmps28
  go_wp2_with (go_at_call 41; go_must (refine HSP.out.mono ?_); rintro e w1 ⟨rfl, rfl⟩)
  generalize (w.alloc (.cells (P.map Value.string).toArray 9)) = w1 at HC HKA HLA ⊢
  go_loopw [0, 6, 17] (fun sv lv iv wr => ∃ (k : Nat) (S : ByteArray) (acc : List Int), k ≤ PS.length ∧ iv = .int .i64 (k : Int) ∧ sv = .string S ∧ NmI PS s.data.toList w w1 k S lv acc wr) (fun _ _ iv _ => PS.length - (intOf iv).toNat)
  case atStart => exact ⟨0, s, [], by omega, rfl, rfl, ⟨HS0.out, OwnI.nil _ _, by simp, (fun x hx => by cases hx), rfl, Kp.refl _⟩⟩
  case round =>
    obtain ⟨k, S, acc, hk, rfl, rfl, hI⟩ := hrel
    have HI := hid hI
    obtain ⟨A, c, rfl⟩ := own_form hI.own
    have hszS := hI.sz
    by_cases hlt : k < PS.length
    · have i1 : (k : Int) < (PS.length : Int) := by omega
      have i2 : (0 : Int) ≤ (k : Int) := by omega
      have k1 : IntKind.i64.wrap ((k : Int) + 1) = (k : Int) + 1 := by have := HLL.out; rw [IntKind.wrap_i64]; omega
      obtain ⟨X, hX⟩ : ∃ X, P[k]? = some X := ⟨_, List.getElem?_eq_getElem (by rw [HPL.out]; exact hlt)⟩
      have hPX : PS.drop k = X.data.toList :: PS.drop (k + 1) := by
        rw [← HPS.out, ← List.map_drop, ← List.map_drop]
        obtain ⟨hk2, hx2⟩ := List.getElem?_eq_some_iff.1 hX
        rw [List.drop_eq_getElem_cons hk2, hx2]; rfl
      have HPX := hid hPX
      have q0 := (hI.kq.block w.heap.size HLA.out)
      have q1 : wr.cell? ⟨w.heap.size, k, none⟩ = some (.string X) := by rw [World.cell?_of_block q0]; exact HC.out k X hX
      have HCP := hid (fun S' w => cp_any S' X w)
      clear hX hPX q0
      by_cases hk0 : k = 0
      · have i3 : ¬ (0 : Int) < (k : Int) := by omega
        have HK0 := hid hk0
        clear hk0
        cases hp : X.data.toList.isPrefixOf S.data.toList
        · have HN := hid (show scanM PS true s.data.toList [] = none by rw [HI.out.eq, HPX.out, show decide (k = 0) = true by simp [HK0.out], scanM, hp]; rfl)
          have HCM := hid (fun w => cp_miss S X w hp)
          clear hp hI
          go_wp2_with (go_at_call 37; go_must (refine (HCM.out _).mono ?_); rintro e w2 ⟨rfl, rfl⟩)
          go_ret2
          exact nm_fail HN.out (HKA.out.trans HI.out.kq)
        · have HN := hid (nm_step1 HI.out HK0.out HPX.out hp)
          have HCM := hid (fun w => cp_hit S X w hp)
          generalize (⟨(S.data.toList.drop X.data.toList.length).toArray⟩ : ByteArray) = S2 at HN HCM
          clear hp hI
          go_wp2_with (go_at_call 37; go_must (refine (HCM.out _).mono ?_); rintro e w2 ⟨rfl, rfl⟩)
          exact nm_round hlt HN.out
      · have i3 : (0 : Int) < (k : Int) := by omega
        have HK0 := hid hk0
        clear hk0 hI
        go_wp2
        have HSZ := hid hszS
        go_loop [9] (fun nv => ∃ j : Nat, j ≤ S.size ∧ nv = .int .i64 (j : Int) ∧ Hid ((S.data.toList.take j).all isNum = true)) (fun nv => S.size - (intOf nv).toNat)
        case atStart => exact ⟨0, by omega, rfl, hid (by simp)⟩
        case round =>
          obtain ⟨j, hj, rfl, HJ⟩ := hrel
          have k2 : IntKind.i64.wrap ((j : Int) + 1) = (j : Int) + 1 := by have := HSZ.out; rw [IntKind.wrap_i64]; omega
          have hcase : (∃ (h : j < S.size) (cv : Int), (S[j].toNat : Int) = cv ∧ isNum S[j] = true ∧ ((cv == 45) = true ∨ (cv == 45) = false ∧ 48 ≤ cv ∧ cv ≤ 57)) ∨ (∃ (h : j < S.size) (cv : Int), (S[j].toNat : Int) = cv ∧ isNum S[j] = false ∧ (cv == 45) = false ∧ (¬ 48 ≤ cv ∨ (48 ≤ cv ∧ ¬ cv ≤ 57))) ∨ ¬ j < S.size := by
            by_cases h : j < S.size
            · by_cases h1 : S[j].toNat = 45
              · exact .inl ⟨h, 45, by omega, by have e : S[j] = 45 := UInt8.toNat_inj.1 (by rw [h1]; rfl); rw [e]; rfl, .inl rfl⟩
              · have hne : ((S[j].toNat : Int) == 45) = false := by rw [beq_eq_false_iff_ne]; omega
                have hne2 : (S[j] == 45) = false := by rw [beq_eq_false_iff_ne]; intro e; exact h1 (by rw [e]; rfl)
                by_cases h2 : 48 ≤ S[j].toNat ∧ S[j].toNat ≤ 57
                · exact .inl ⟨h, _, rfl, by simp [isNum, h2], .inr ⟨hne, by omega, by omega⟩⟩
                · exact .inr (.inl ⟨h, _, rfl, by simp only [isNum, hne2, Bool.false_or]; rw [Bool.and_eq_false_iff]; by_cases h3 : 48 ≤ S[j].toNat
                                                  · right; exact decide_eq_false (by omega)
                                                  · left; exact decide_eq_false h3, hne, by omega⟩)
            · exact .inr (.inr h)
          rcases hcase with ⟨h, cv, hcv, hin, hyes⟩ | hno
          · have i4 : (j : Int) < (S.size : Int) := by omega
            have HN := hid (all_next h HJ.out hin)
            obtain ⟨cc, hc⟩ : ∃ cc, S[j] = cc := ⟨_, rfl⟩
            rw [hc] at hcv
            clear hin HJ
            rcases hyes with t1 | ⟨t1, c1, c2⟩
            all_goals
              go_wp2
              go_round
              case rel => exact ⟨j + 1, h, by simp, HN⟩
              case measure => simp [intOf]; omega
          · have HTW := hid (tw_all hj HJ.out (fun h => by
              rcases hno with ⟨_, _, _, h2, _⟩ | h2
              · exact h2
              · exact absurd h h2))
            have hz : S.data.toList.length = S.size := by rw [Array.length_toList]; rfl
            obtain ⟨T, hT⟩ : ∃ T, S.extract 0 j = T := ⟨_, rfl⟩
            obtain ⟨S2, hS2⟩ : ∃ S2, S.extract j S.size = S2 := ⟨_, rfl⟩
            have hTd : T.data.toList = S.data.toList.takeWhile isNum := by rw [HTW.out, ← hT, Lib.extract_eq]; simp
            have hdl : (S.data.toList.takeWhile isNum).length = j := by rw [HTW.out, List.length_take]; omega
            have hS2d : S2.data.toList = S.data.toList.drop j := by rw [← hS2, Lib.extract_eq]; simp only [List.toList_toArray]; rw [List.take_of_length_le (by rw [List.length_drop]; omega)]
            have hTs : T.size ≤ 1000000 := by rw [← hT, ByteArray.size_extract]; omega
            have HRD := hid (fun w => read_o T w hTs)
            have HW := hid (show w1.heap.size ≤ wr.heap.size from HI.out.kq.le)
            have HTD := hid hTd; have HDL := hid hdl; have HSD := hid hS2d
            have c1 : (0 : Int) ≤ (j : Int) := by omega
            have c2 : (j : Int) ≤ (S.size : Int) := by omega
            clear hz hTd hdl hS2d hTs HJ
            cases hr : readO T.data.toList with
            | none =>
              rw [hr] at HRD
              have HN := hid (show scanM PS true s.data.toList [] = none by rw [HI.out.eq, HPX.out, show decide (k = 0) = false by simp [HK0.out], scanM, ← HTD.out, hr])
              clear hr
              rcases hno with ⟨h, cv, hcv, _, t1, r1 | ⟨r1, r2⟩⟩ | h
              · have i4 : (j : Int) < (S.size : Int) := by omega
                obtain ⟨cc, hc⟩ : ∃ cc, S[j] = cc := ⟨_, rfl⟩
                rw [hc] at hcv
                go_wp2_with (go_at_call 42; go_must (refine (HRD.out _).mono ?_); rintro e w2 ⟨rfl, hk2⟩; have HK2 := hid hk2; clear hk2)
                go_ret2
                exact nm_fail HN.out ((HKA.out.trans HI.out.kq).trans HK2.out)
              · have i4 : (j : Int) < (S.size : Int) := by omega
                obtain ⟨cc, hc⟩ : ∃ cc, S[j] = cc := ⟨_, rfl⟩
                rw [hc] at hcv
                go_wp2_with (go_at_call 42; go_must (refine (HRD.out _).mono ?_); rintro e w2 ⟨rfl, hk2⟩; have HK2 := hid hk2; clear hk2)
                go_ret2
                exact nm_fail HN.out ((HKA.out.trans HI.out.kq).trans HK2.out)
              · have i4 : ¬ (j : Int) < (S.size : Int) := by omega
                go_wp2_with (go_at_call 42; go_must (refine (HRD.out _).mono ?_); rintro e w2 ⟨rfl, hk2⟩; have HK2 := hid hk2; clear hk2)
                go_ret2
                exact nm_fail HN.out ((HKA.out.trans HI.out.kq).trans HK2.out)
            | some v =>
              rw [hr] at HRD
              have HV := hid hr
              have B1 := hid (show acc.length + 1 ≤ maxLen by have := HI.out.len; have := HLL.out; unfold maxLen; omega)
              have B2 := hid (show (acc.length + 1) * 8 ≤ 140737488355328 by have := HI.out.len; have := HLL.out; omega)
              have HOW := hid HI.out.own
              clear hr
              cases hp : X.data.toList.isPrefixOf S2.data.toList
              · have HN := hid (show scanM PS true s.data.toList [] = none by rw [HI.out.eq, HPX.out, show decide (k = 0) = false by simp [HK0.out], scanM, ← HTD.out, HV.out]; show (if X.data.toList.isPrefixOf (S.data.toList.drop T.data.toList.length) then _ else _) = _; rw [HTD.out, HDL.out, ← HSD.out, hp]; rfl)
                have HCM := hid (fun w => cp_miss S2 X w hp)
                clear hp
                rcases hno with ⟨h, cv, hcv, _, t1, r1 | ⟨r1, r2⟩⟩ | h
                · have i4 : (j : Int) < (S.size : Int) := by omega
                  obtain ⟨cc, hc⟩ : ∃ cc, S[j] = cc := ⟨_, rfl⟩
                  rw [hc] at hcv
                  go_wp2_with first | (go_at_call 42; go_must (refine (HRD.out _).mono ?_); rintro e w2 ⟨rfl, hk2⟩; have HK2 := hid hk2; have HOW2 : Hid (OwnI w2 w1.heap.size _ acc) := hid (ownsRow_keep HOW.out hk2); clear hk2) | (at_builtin; go_must (refine app_lit elInt rfl (.tmp 57) (.tmp 59) rfl HOW2.out rfl #[.int .i64 v] _ 1 1 rfl rfl (by intro u hu; simp at hu; subst hu; rfl) B1.out B2.out (Nat.le_trans HW.out HK2.out.le) ?_); intro v5 w5 hown5 hg5 hm5 hn5 hb5; have HO5 := hid (own_snoc hown5); have HQ5 := hid (show Kp w1 w5 from Below.trans (HI.out.kq.trans HK2.out) hb5); obtain ⟨A5, c5, rfl⟩ := own_form HO5.out; clear hown5 hg5 hm5 hn5 hb5) | (go_at_call 37; go_must (refine (HCM.out _).mono ?_); rintro e w6 ⟨rfl, rfl⟩)
                  go_ret2
                  exact nm_fail HN.out (HKA.out.trans HQ5.out)
                · have i4 : (j : Int) < (S.size : Int) := by omega
                  obtain ⟨cc, hc⟩ : ∃ cc, S[j] = cc := ⟨_, rfl⟩
                  rw [hc] at hcv
                  go_wp2_with first | (go_at_call 42; go_must (refine (HRD.out _).mono ?_); rintro e w2 ⟨rfl, hk2⟩; have HK2 := hid hk2; have HOW2 : Hid (OwnI w2 w1.heap.size _ acc) := hid (ownsRow_keep HOW.out hk2); clear hk2) | (at_builtin; go_must (refine app_lit elInt rfl (.tmp 57) (.tmp 59) rfl HOW2.out rfl #[.int .i64 v] _ 1 1 rfl rfl (by intro u hu; simp at hu; subst hu; rfl) B1.out B2.out (Nat.le_trans HW.out HK2.out.le) ?_); intro v5 w5 hown5 hg5 hm5 hn5 hb5; have HO5 := hid (own_snoc hown5); have HQ5 := hid (show Kp w1 w5 from Below.trans (HI.out.kq.trans HK2.out) hb5); obtain ⟨A5, c5, rfl⟩ := own_form HO5.out; clear hown5 hg5 hm5 hn5 hb5) | (go_at_call 37; go_must (refine (HCM.out _).mono ?_); rintro e w6 ⟨rfl, rfl⟩)
                  go_ret2
                  exact nm_fail HN.out (HKA.out.trans HQ5.out)
                · have i4 : ¬ (j : Int) < (S.size : Int) := by omega
                  go_wp2_with first | (go_at_call 42; go_must (refine (HRD.out _).mono ?_); rintro e w2 ⟨rfl, hk2⟩; have HK2 := hid hk2; have HOW2 : Hid (OwnI w2 w1.heap.size _ acc) := hid (ownsRow_keep HOW.out hk2); clear hk2) | (at_builtin; go_must (refine app_lit elInt rfl (.tmp 57) (.tmp 59) rfl HOW2.out rfl #[.int .i64 v] _ 1 1 rfl rfl (by intro u hu; simp at hu; subst hu; rfl) B1.out B2.out (Nat.le_trans HW.out HK2.out.le) ?_); intro v5 w5 hown5 hg5 hm5 hn5 hb5; have HO5 := hid (own_snoc hown5); have HQ5 := hid (show Kp w1 w5 from Below.trans (HI.out.kq.trans HK2.out) hb5); obtain ⟨A5, c5, rfl⟩ := own_form HO5.out; clear hown5 hg5 hm5 hn5 hb5) | (go_at_call 37; go_must (refine (HCM.out _).mono ?_); rintro e w6 ⟨rfl, rfl⟩)
                  go_ret2
                  exact nm_fail HN.out (HKA.out.trans HQ5.out)
              · have HP := hid (show X.data.toList.isPrefixOf (S.data.toList.drop T.data.toList.length) = true by rw [HTD.out, HDL.out, ← HSD.out, hp])
                have HCM := hid (fun w => cp_hit S2 X w hp)
                obtain ⟨S3, hS3⟩ : ∃ S3 : ByteArray, (⟨(S2.data.toList.drop X.data.toList.length).toArray⟩ : ByteArray) = S3 := ⟨_, rfl⟩
                rw [hS3] at HCM
                have HS3 := hid (show (⟨((S.data.toList.drop T.data.toList.length).drop X.data.toList.length).toArray⟩ : ByteArray) = S3 by rw [← hS3, HSD.out, HTD.out, HDL.out])
                clear hp hS3
                rcases hno with ⟨h, cv, hcv, _, t1, r1 | ⟨r1, r2⟩⟩ | h
                · have i4 : (j : Int) < (S.size : Int) := by omega
                  obtain ⟨cc, hc⟩ : ∃ cc, S[j] = cc := ⟨_, rfl⟩
                  rw [hc] at hcv
                  go_wp2_with first | (go_at_call 42; go_must (refine (HRD.out _).mono ?_); rintro e w2 ⟨rfl, hk2⟩; have HK2 := hid hk2; have HOW2 : Hid (OwnI w2 w1.heap.size _ acc) := hid (ownsRow_keep HOW.out hk2); clear hk2) | (at_builtin; go_must (refine app_lit elInt rfl (.tmp 57) (.tmp 59) rfl HOW2.out rfl #[.int .i64 v] _ 1 1 rfl rfl (by intro u hu; simp at hu; subst hu; rfl) B1.out B2.out (Nat.le_trans HW.out HK2.out.le) ?_); intro v5 w5 hown5 hg5 hm5 hn5 hb5; have HO5 := hid (own_snoc hown5); have HQ5 := hid (show Kp w1 w5 from Below.trans (HI.out.kq.trans HK2.out) hb5); obtain ⟨A5, c5, rfl⟩ := own_form HO5.out; clear hown5 hg5 hm5 hn5 hb5) | (go_at_call 37; go_must (refine (HCM.out _).mono ?_); rintro e w6 ⟨rfl, rfl⟩)
                  exact nm_round hlt (by rw [← HS3.out]; exact nm_step2 HI.out HK0.out HPX.out HTD.out.symm HV.out HP.out (own_len HO5.out) HQ5.out)
                · have i4 : (j : Int) < (S.size : Int) := by omega
                  obtain ⟨cc, hc⟩ : ∃ cc, S[j] = cc := ⟨_, rfl⟩
                  rw [hc] at hcv
                  go_wp2_with first | (go_at_call 42; go_must (refine (HRD.out _).mono ?_); rintro e w2 ⟨rfl, hk2⟩; have HK2 := hid hk2; have HOW2 : Hid (OwnI w2 w1.heap.size _ acc) := hid (ownsRow_keep HOW.out hk2); clear hk2) | (at_builtin; go_must (refine app_lit elInt rfl (.tmp 57) (.tmp 59) rfl HOW2.out rfl #[.int .i64 v] _ 1 1 rfl rfl (by intro u hu; simp at hu; subst hu; rfl) B1.out B2.out (Nat.le_trans HW.out HK2.out.le) ?_); intro v5 w5 hown5 hg5 hm5 hn5 hb5; have HO5 := hid (own_snoc hown5); have HQ5 := hid (show Kp w1 w5 from Below.trans (HI.out.kq.trans HK2.out) hb5); obtain ⟨A5, c5, rfl⟩ := own_form HO5.out; clear hown5 hg5 hm5 hn5 hb5) | (go_at_call 37; go_must (refine (HCM.out _).mono ?_); rintro e w6 ⟨rfl, rfl⟩)
                  exact nm_round hlt (by rw [← HS3.out]; exact nm_step2 HI.out HK0.out HPX.out HTD.out.symm HV.out HP.out (own_len HO5.out) HQ5.out)
                · have i4 : ¬ (j : Int) < (S.size : Int) := by omega
                  go_wp2_with first | (go_at_call 42; go_must (refine (HRD.out _).mono ?_); rintro e w2 ⟨rfl, hk2⟩; have HK2 := hid hk2; have HOW2 : Hid (OwnI w2 w1.heap.size _ acc) := hid (ownsRow_keep HOW.out hk2); clear hk2) | (at_builtin; go_must (refine app_lit elInt rfl (.tmp 57) (.tmp 59) rfl HOW2.out rfl #[.int .i64 v] _ 1 1 rfl rfl (by intro u hu; simp at hu; subst hu; rfl) B1.out B2.out (Nat.le_trans HW.out HK2.out.le) ?_); intro v5 w5 hown5 hg5 hm5 hn5 hb5; have HO5 := hid (own_snoc hown5); have HQ5 := hid (show Kp w1 w5 from Below.trans (HI.out.kq.trans HK2.out) hb5); obtain ⟨A5, c5, rfl⟩ := own_form HO5.out; clear hown5 hg5 hm5 hn5 hb5) | (go_at_call 37; go_must (refine (HCM.out _).mono ?_); rintro e w6 ⟨rfl, rfl⟩)
                  exact nm_round hlt (by rw [← HS3.out]; exact nm_step2 HI.out HK0.out HPX.out HTD.out.symm HV.out HP.out (own_len HO5.out) HQ5.out)
    · obtain rfl : k = PS.length := by omega
      have i1 : ¬ (PS.length : Int) < (PS.length : Int) := by omega
      have hq := hI.eq
      rw [List.drop_length, scanM] at hq
      have HQ := hid hq
      clear hq
      cases hs : (S.toList == [])
      · have HE := hid (show numbersM PS s.data.toList = none by
          unfold numbersM; rw [HQ.out]
          rw [ByteArray.toList_eq] at hs
          cases hd : S.data.toList with
          | nil => rw [hd] at hs; cases hs
          | cons a b => rfl)
        clear hI
        go_wp2
        go_ret2
        exact ⟨⟨_, _, _, by rw [HE.out]; rfl, fun l hl => by rw [HE.out] at hl; cases hl⟩, HKA.out.trans HI.out.kq⟩
      · have HE := hid (show numbersM PS s.data.toList = some acc by
          unfold numbersM; rw [HQ.out]
          rw [ByteArray.toList_eq, beq_iff_eq] at hs
          rw [hs])
        clear hI
        go_wp2
        go_ret2
        exact ⟨⟨_, _, _, by rw [HE.out]; rfl, fun l hl => by rw [HE.out] at hl; cases hl; exact OwnI.rd HI.out.own (by have := HI.out.len; have := HLL.out; omega) HI.out.ok⟩, HKA.out.trans HI.out.kq⟩
end Go.Proofs.YtiicdknmoakocaaDoor
