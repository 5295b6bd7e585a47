/-
  Package report: mended, mend, quoted. Condition: the text lies within the reach.
-/
import Derived.Test.YtiicdknmoakocaaSoundS
import Derived.Test.YtiicdknmoakocaaByte
import Derived.Test.YtiicdknmoakocaaUnquoteP
namespace Go.Proofs.Ytiicdknmoakocaa
open Go.RowKit
set_option linter.unusedVariables false
set_option linter.unusedSimpArgs false

/-- A byte that can't be written is a ?. -/
def mendB (also : List UInt8) (c : UInt8) : UInt8 := if (c.toNat < 32 ∨ 126 < c.toNat) ∧ Lib.indexByte also c < 0 then 63 else c
theorem idx_any (s : ByteArray) (d : UInt8) (n : Int) (hn : (d.toNat : Int) = n) (w : World) : Calls Try.prog 102 #[.string s, .int .u8 n] w fun e w' => e = .returned (.int .i64 (Lib.indexByte s.data.toList d)) ∧ w = w' := by
  subst hn
  refine (Try.strings_IndexByte s d.toNat w).mono ?_
  rintro e w' ⟨rfl, rfl⟩
  refine ⟨ret_int ?_, rfl⟩
  have : ((d.toNat : Int).toNat.toUInt8) = d := by simp
  rw [this]
theorem map_take {l : List UInt8} {k : Nat} {c : UInt8} (f : UInt8 → UInt8) (h : l[k]? = some c) : (l.take (k + 1)).map f = (l.take k).map f ++ [f c] := by
  rw [List.take_add_one, h]; simp
theorem md_round {w u : World} {s : ByteArray} {f : UInt8 → UInt8} {k : Nat} {v : Value} (hk : k < s.size) (h : OwnB u w.heap.size v ((s.data.toList.take (k + 1)).map f) ∧ Below w.heap.size w u) :
    (∃ k1 : Nat, k1 ≤ s.size ∧ Value.int .i64 ((k : Int) + 1) = .int .i64 (k1 : Int) ∧ OwnB u w.heap.size v ((s.data.toList.take k1).map f) ∧ Below w.heap.size w u) ∧ s.size - (intOf (.int .i64 ((k : Int) + 1))).toNat < s.size - (intOf (.int .i64 (k : Int))).toNat :=
  ⟨⟨k + 1, hk, by congr 1, h⟩, by simp only [intOf, Int.toNat_natCast]; omega⟩
set_option maxRecDepth 20000 in
set_option maxHeartbeats 4000000 in
theorem mended_any (s also : ByteArray) (hs : s.size ≤ 140737488351232) (w : World) : Calls Try.prog 98 #[.string s, .string also] w fun e w' => (∃ v, e = .returned v ∧ OwnB w' w.heap.size v (s.data.toList.map (mendB also.data.toList))) ∧ Kp w w' := by
  have HS := hid hs
  have HSL := hid (show s.data.toList.length = s.size from by rw [Array.length_toList]; rfl)
  clear hs
  go_enter Try.func98, Try.ntmps98
  go_wp2
  go_loopw [5, 6] (fun v i wr => ∃ k : Nat, k ≤ s.size ∧ i = .int .i64 (k : Int) ∧ OwnB wr w.heap.size v ((s.data.toList.take k).map (mendB also.data.toList)) ∧ Below w.heap.size w wr) (fun _ i _ => s.size - (intOf i).toNat)
  case atStart => exact ⟨0, Nat.zero_le _, rfl, OwnB.nil _ _, Below.refl _ _⟩
  case round =>
    obtain ⟨k, hk, rfl, hown, hbel⟩ := hrel
    have HB := hid hbel
    have HLW := hid hbel.size
    by_cases hlt : k < s.size
    · have i1 : (k : Int) < (s.size : Int) := by omega
      have k1 : IntKind.i64.wrap ((k : Int) + 1) = (k : Int) + 1 := by have := HS.out; rw [IntKind.wrap_i64]; omega
      obtain ⟨c, hc⟩ : ∃ c, s[k] = c := ⟨_, rfl⟩
      have hck : s.data.toList[k]? = some c := by
        rw [List.getElem?_eq_getElem (by rw [HSL.out]; exact hlt)]; simp; exact hc
      have HCK := hid hck
      obtain ⟨cv, hcv⟩ : ∃ cv : Int, (c.toNat : Int) = cv := ⟨_, rfl⟩
      have HCV := hid hcv
      have HLL := hid (show ((s.data.toList.take k).map (mendB also.data.toList)).length + 1 ≤ 140737488355328 by
        rw [List.length_map, List.length_take, HSL.out]; have := HS.out; omega)
      have hcase : (mendB also.data.toList c = 63 ∧ (cv < 32 ∨ (¬ cv < 32 ∧ 126 < cv)) ∧ Lib.indexByte also.data.toList c < 0) ∨ (mendB also.data.toList c = c ∧ (cv < 32 ∨ (¬ cv < 32 ∧ 126 < cv)) ∧ ¬ Lib.indexByte also.data.toList c < 0) ∨ (mendB also.data.toList c = c ∧ ¬ cv < 32 ∧ ¬ 126 < cv) := by
        by_cases h1 : c.toNat < 32 ∨ 126 < c.toNat
        · by_cases h2 : Lib.indexByte also.data.toList c < 0
          · exact .inl ⟨by unfold mendB; rw [if_pos ⟨h1, h2⟩], by omega, h2⟩
          · exact .inr (.inl ⟨by unfold mendB; rw [if_neg (fun h => h2 h.2)], by omega, h2⟩)
        · exact .inr (.inr ⟨by unfold mendB; rw [if_neg (fun h => h1 h.1)], by omega, by omega⟩)
      clear hck hk hbel
      rcases hcase with ⟨hm, hr, hx⟩ | ⟨hm, hr, hx⟩ | ⟨hm, r1, r2⟩
      · have HM := hid hm
        clear hm
        rcases hr with r1 | ⟨r1, r2⟩
        all_goals
          go_wp2_with first | (go_at_call 102; go_must (refine (idx_any also c _ HCV.out _).mono ?_); rintro e w9 ⟨rfl, rfl⟩) | (at_builtin; go_must (refine app_bytes rfl (.tmp 29) (.tmp 31) rfl hown rfl _ _ [63] 1 1 rfl rfl rfl HLL.out HLW.out ?_); intro v2 w2 hown2 hg2 hb2)
          exact md_round hlt ⟨by rw [map_take _ HCK.out, HM.out]; exact hown2, Below.trans HB.out hb2⟩
      · have HM := hid hm
        clear hm
        rcases hr with r1 | ⟨r1, r2⟩
        all_goals
          go_wp2_with first | (go_at_call 102; go_must (refine (idx_any also c _ HCV.out _).mono ?_); rintro e w9 ⟨rfl, rfl⟩) | (at_builtin; go_must (refine app_bytes rfl (.tmp 29) (.tmp 31) rfl hown rfl _ _ [c] 1 1 rfl (by rw [← HCV.out]; rfl) rfl HLL.out HLW.out ?_); intro v2 w2 hown2 hg2 hb2)
          exact md_round hlt ⟨by rw [map_take _ HCK.out, HM.out]; exact hown2, Below.trans HB.out hb2⟩
      · have HM := hid hm
        clear hm
        go_wp2_with (at_builtin; go_must (refine app_bytes rfl (.tmp 29) (.tmp 31) rfl hown rfl _ _ [c] 1 1 rfl (by rw [← HCV.out]; rfl) rfl HLL.out HLW.out ?_); intro v2 w2 hown2 hg2 hb2)
        exact md_round hlt ⟨by rw [map_take _ HCK.out, HM.out]; exact hown2, Below.trans HB.out hb2⟩
    · have i1 : ¬ (k : Int) < (s.size : Int) := by omega
      obtain rfl : k = s.size := by omega
      have hall : s.data.toList.take s.size = s.data.toList := List.take_of_length_le (by rw [HSL.out]; exact Nat.le_refl _)
      rw [hall] at hown
      clear hlt hk hall
      go_wp2
      go_ret
      exact ⟨⟨_, rfl, hown⟩, HB.out⟩
set_option maxRecDepth 20000 in
set_option maxHeartbeats 1000000 in
theorem mend_any (s also : ByteArray) (hs : s.size ≤ 140737488351232) (w : World) : Calls Try.prog 69 #[.string s, .string also] w fun e w' => e = .returned (.string ⟨(s.data.toList.map (mendB also.data.toList)).toArray⟩) ∧ Kp w w' := by
  have HMD := fun w => mended_any s also hs w
  generalize s.data.toList.map (mendB also.data.toList) = L at HMD ⊢
  go_enter Try.func69, Try.ntmps69
  go_wp2_with (go_at_call 98; go_must (refine (HMD _).mono ?_); rintro e w1 ⟨⟨v1, rfl, ho1⟩, hk1⟩; have hst := ho1.str; obtain ⟨A1, c1, rfl⟩ := own_form ho1; have HK := hid hk1; clear ho1 hk1)
  go_ret
  exact ⟨rfl, HK.out⟩
/-! ### quoted -/
theorem mend_okB : ∀ n, n < 256 → escB (mendB [10, 9] (UInt8.ofNat n)) ≠ none := by decide +kernel
theorem mend_ok (l : List UInt8) : okAll (l.map (mendB [10, 9])) := by
  intro c hc
  obtain ⟨d, _, rfl⟩ := List.mem_map.1 hc
  have h := mend_okB d.toNat (UInt8.toNat_lt d)
  rw [UInt8.ofNat_toNat] at h
  exact h
theorem ba_ext (l : List UInt8) (a b : Nat) : (⟨l.toArray⟩ : ByteArray).extract a b = ⟨((l.take b).drop a).toArray⟩ := by
  apply ByteArray.ext
  rw [ByteArray.data_extract]
  apply Array.toList_inj.1
  rw [Array.toList_extract, List.extract_eq_take_drop]
  simp [List.drop_take]
theorem ba_size (l : List UInt8) : (⟨l.toArray⟩ : ByteArray).size = l.length := by simp [ByteArray.size]
theorem escs_app (a b : List UInt8) : escs (a ++ b) = escs a ++ escs b := by unfold escs; rw [List.flatMap_append]
/-- The state of quoted's loop. -/
structure QdI (M : List UInt8) (k : Nat) (cur out : ByteArray) : Prop where
  le : k ≤ M.length
  cur : cur = ⟨(M.drop k).toArray⟩
  out : out = ⟨(34 :: escs (M.take k)).toArray⟩
set_option maxRecDepth 20000 in
set_option maxHeartbeats 4000000 in
theorem quoted_any (s : ByteArray) (hs : s.size ≤ 140737488351232) (w : World) : Calls Try.prog 68 #[.string s] w fun e w' => e = .returned (.string ⟨(34 :: (escs (s.data.toList.map (mendB [10, 9])) ++ [34])).toArray⟩) ∧ Kp w w' := by
  have HME := fun w => mend_any s ⟨#[10, 9]⟩ hs w
  have HOK := hid (mend_ok s.data.toList)
  have HML := hid (show (s.data.toList.map (mendB [10, 9])).length ≤ 140737488351232 by rw [List.length_map, Array.length_toList]; exact hs)
  have e2 : (⟨#[10, 9]⟩ : ByteArray).data.toList = [10, 9] := rfl
  rw [e2] at HME
  generalize s.data.toList.map (mendB [10, 9]) = M at HME HOK HML ⊢
  clear e2
  go_enter Try.func68, Try.ntmps68
  go_wp2_with (go_at_call 69; go_must (refine (HME _).mono ?_); rintro e w1 ⟨rfl, hk1⟩; have HK1 := hid hk1; clear hk1)
  go_loopw [0, 3] (fun v o wr => ∃ (k : Nat) (cur out : ByteArray), v = .string cur ∧ o = .string out ∧ QdI M k cur out ∧ Kp w wr) (fun v _ _ => match v with | .string x => x.size | _ => 0)
  case atStart => exact ⟨0, _, _, rfl, rfl, ⟨Nat.zero_le _, rfl, rfl⟩, HK1.out⟩
  case round =>
    obtain ⟨k, cur, out, rfl, rfl, hq, hkr⟩ := hrel
    have HQ := hid hq
    have HKR := hid hkr
    have hsz : cur.size = M.length - k := by rw [hq.cur, ba_size, List.length_drop]
    have hosz : out.size ≤ 2 * 140737488351232 + 1 := by
      rw [hq.out, ba_size, List.length_cons]
      have h1 := escs_len (M.take k)
      have h2 : (M.take k).length ≤ M.length := by rw [List.length_take]; omega
      have := HML.out; omega
    have hle := hq.le
    clear hq hkr
    by_cases hlt : k < M.length
    · have tl : (cur.toList == []) = false := by
        rw [beq_eq_false_iff_ne, ByteArray.toList_eq]
        intro h
        have h1 := congrArg List.length h
        rw [Array.length_toList] at h1
        have h2 : cur.data.size = cur.size := rfl
        rw [List.length_nil] at h1; omega
      have tl2 : (cur.toList != []) = true := by rw [bne, tl]; rfl
      obtain ⟨n, hn, hn2⟩ : ∃ n : Nat, n = min (M.length - k) 200 ∧ 0 < n := ⟨_, rfl, by omega⟩
      have hT : cur.extract 0 n = ⟨((M.drop k).take n).toArray⟩ := by rw [HQ.out.cur, ba_ext]; rfl
      have hR : cur.extract n cur.size = ⟨((M.drop (k + n))).toArray⟩ := by
        rw [hsz, HQ.out.cur, ba_ext]
        congr 2
        rw [List.take_of_length_le (by rw [List.length_drop]; omega), List.drop_drop]
      have hTl : ((M.drop k).take n).length = n := by rw [List.length_take, List.length_drop]; omega
      have hte : textE ⟨((M.drop k).take n).toArray⟩ = 0 := by
        unfold textE
        rw [if_pos]
        refine ⟨by rw [ba_size, hTl]; omega, fun c hc => HOK.out c ?_⟩
        have hc' : c ∈ (M.drop k).take n := by simpa using hc
        exact List.mem_of_mem_drop (List.mem_of_mem_take hc')
      have HQT := fun w => quote_ok hte w
      obtain ⟨E, hE⟩ : ∃ E, escs ((M.drop k).take n) = E := ⟨_, rfl⟩
      have hdt : (⟨((M.drop k).take n).toArray⟩ : ByteArray).data.toList = (M.drop k).take n := rfl
      rw [hdt, hE] at HQT
      obtain ⟨Qs, hQs⟩ : ∃ Qs : ByteArray, (⟨(34 :: (E ++ [34])).toArray⟩ : ByteArray) = Qs := ⟨_, rfl⟩
      have hEl : E.length ≤ 400 := by rw [← hE]; have := escs_len ((M.drop k).take n); omega
      have hQz : Qs.size = E.length + 2 := by rw [← hQs, ba_size]; simp
      have hQx : Qs.extract 1 (E.length + 1) = ⟨E.toArray⟩ := by rw [← hQs, ba_ext]; congr 2; simp
      rw [hQs] at HQT
      have hadd : out ++ ⟨E.toArray⟩ = ⟨(34 :: escs (M.take (k + n))).toArray⟩ := by
        rw [HQ.out.out, List.take_add, escs_app, hE]
        apply ByteArray.ext
        simp [ByteArray.data_append]
      obtain ⟨T, hTT⟩ : ∃ T : ByteArray, (⟨((M.drop k).take n).toArray⟩ : ByteArray) = T := ⟨_, rfl⟩
      rw [hTT] at hT HQT
      obtain ⟨EE, hEE⟩ : ∃ EE : ByteArray, (⟨E.toArray⟩ : ByteArray) = EE := ⟨_, rfl⟩
      rw [hEE] at hQx hadd
      have hEz : EE.size = E.length := by rw [← hEE, ba_size]
      have ad : ∀ w, Sem.run Try.prog (Op.stringOp .add out EE) w = .ok (.string (out ++ EE)) w := fun w => run_string_add_sum w _ _ (by omega)
      have HADD := hid hadd
      have HR := hid hR
      have HNN := hid hn2
      have HSZ := hid hsz
      have hzq : (Qs.size : Int) - 1 = ((E.length + 1 : Nat) : Int) := by omega
      have kq : IntKind.i64.wrap ((Qs.size : Int) - 1) = ((E.length + 1 : Nat) : Int) := by rw [IntKind.wrap_i64]; omega
      have hcn : (n : Int) ≤ (cur.size : Int) := by omega
      have HN := hid hn
      have HK2 := hid (show k + n ≤ M.length by omega)
      clear hte hdt hE hQs hTT hEE hadd hTl hsz hn hosz
      rcases Nat.lt_or_ge 200 cur.size with hb | hb
      · obtain rfl : n = 200 := by have := HSZ.out; have := HN.out; omega
        have hmin : min (cur.size : Int) 200 = 200 := by omega
        have hb2 : (200 : Int) < (cur.size : Int) := by omega
        have hb3 : ¬ (cur.size : Int) ≤ 200 := by omega
        have hb4 : ¬ (cur.size : Int) < 200 := by omega
        go_wp2_with (go_at_call 50; go_must (refine (HQT _).mono ?_); rintro e w9 ⟨rfl, hk9⟩; have HK9 := hid hk9; clear hk9)
        refine ⟨⟨k + 200, _, _, rfl, rfl, ⟨HK2.out, rfl, HADD.out⟩, HKR.out.trans HK9.out⟩, ?_⟩
        show (⟨(List.drop (k + 200) M).toArray⟩ : ByteArray).size < cur.size
        rw [ba_size, List.length_drop, HSZ.out]
        have := HK2.out; omega
      · obtain rfl : n = cur.size := by have := HSZ.out; have := HN.out; omega
        have hmin : min (cur.size : Int) 200 = (cur.size : Int) := by omega
        have hb2 : ¬ (200 : Int) < (cur.size : Int) := by omega
        have hb3 : (cur.size : Int) ≤ 200 := by omega
        go_wp2_with (go_at_call 50; go_must (refine (HQT _).mono ?_); rintro e w9 ⟨rfl, hk9⟩; have HK9 := hid hk9; clear hk9)
        have hnil : List.drop (k + cur.size) M = [] := List.drop_eq_nil_of_le (by have := HSZ.out; omega)
        refine ⟨⟨k + cur.size, _, _, rfl, rfl, ⟨HK2.out, by rw [hnil]; rfl, HADD.out⟩, HKR.out.trans HK9.out⟩, ?_⟩
        show 0 < cur.size
        exact HNN.out
    · have tl : (cur.toList == []) = true := by
        rw [beq_iff_eq, ByteArray.toList_eq]
        apply List.eq_nil_of_length_eq_zero
        rw [Array.length_toList]
        show cur.size = 0
        omega
      have tl2 : (cur.toList != []) = false := by rw [bne, tl]; rfl
      have hfin : out ++ ⟨#[34]⟩ = ⟨(34 :: (escs M ++ [34])).toArray⟩ := by
        rw [HQ.out.out, List.take_of_length_le (by omega)]
        apply ByteArray.ext
        simp [ByteArray.data_append]
      have ad : ∀ w, Sem.run Try.prog (Op.stringOp .add out ⟨#[34]⟩) w = .ok (.string ⟨(34 :: (escs M ++ [34])).toArray⟩) w := fun w => by
        rw [run_string_add_sum w _ _ (by have : (⟨#[34]⟩ : ByteArray).size = 1 := rfl; omega), hfin]
      clear hfin hosz hsz hlt hle
      go_wp2
      go_ret
      exact ⟨rfl, HKR.out⟩
end Go.Proofs.Ytiicdknmoakocaa
