/-
  value.Show, value.May. Show's condition: a list of at most 10^12 numbers.
-/
import Derived.Test.YtffjfkmnlfndkaaValue
import Derived.Test.YtffjfkmnlfndkaaStrs
import Derived.Test.YtffjfkmnlfndkaaText
import Derived.Lib.ItoaLen
namespace Go.Proofs.Ytffjfkmnlfndkaa
open Go.RowKit

def lit (l : List UInt8) : ByteArray := ⟨l.toArray⟩
def nText (n : Int) : ByteArray := ⟨(Lib.itoa n).toArray⟩
def listText (l : List Int) : List UInt8 := 91 :: (Lib.join ((l.map nText).map (·.data.toList)) [32] ++ [93])
def showM (m : ValM) : ByteArray :=
  if m.k = 1 then nText m.n else if m.k = 2 then (if m.n = 0 then ⟨#[102, 97, 108, 115, 101]⟩ else ⟨#[116, 114, 117, 101]⟩) else if m.k = 3 ∨ m.k = 5 then m.s else if m.k = 4 then ⟨#[110, 105, 108]⟩
  else if m.k = 6 then ⟨(listText m.l).toArray⟩ else if m.k = 7 then ⟨#[112, 111, 105, 110, 116, 101, 114]⟩ else if m.k = 8 then ⟨#[102, 117, 110, 99]⟩ else ⟨#[]⟩
/-- The tests of a kind. -/
structure KTests (k : Int) (b1 b2 b3 b4 b5 b6 b7 b8 : Bool) : Prop where
  t1 : (k == 1) = b1
  t2 : (k == 2) = b2
  t3 : (k == 3) = b3
  t4 : (k == 4) = b4
  t5 : (k == 5) = b5
  t6 : (k == 6) = b6
  t7 : (k == 7) = b7
  t8 : (k == 8) = b8
theorem kind_cases (k : Int) : k = 1 ∨ k = 2 ∨ k = 3 ∨ k = 4 ∨ k = 5 ∨ k = 6 ∨ k = 7 ∨ k = 8 ∨ KTests k false false false false false false false false := by
  by_cases h1 : k = 1
  · exact .inl h1
  by_cases h2 : k = 2
  · exact .inr (.inl h2)
  by_cases h3 : k = 3
  · exact .inr (.inr (.inl h3))
  by_cases h4 : k = 4
  · exact .inr (.inr (.inr (.inl h4)))
  by_cases h5 : k = 5
  · exact .inr (.inr (.inr (.inr (.inl h5))))
  by_cases h6 : k = 6
  · exact .inr (.inr (.inr (.inr (.inr (.inl h6)))))
  by_cases h7 : k = 7
  · exact .inr (.inr (.inr (.inr (.inr (.inr (.inl h7))))))
  by_cases h8 : k = 8
  · exact .inr (.inr (.inr (.inr (.inr (.inr (.inr (.inl h8)))))))
  exact .inr (.inr (.inr (.inr (.inr (.inr (.inr (.inr ⟨by simp [h1], by simp [h2], by simp [h3], by simp [h4], by simp [h5], by simp [h6], by simp [h7], by simp [h8]⟩)))))))
theorem itoa_21 {l : List Int} (h : ∀ x ∈ l, okI x) : ∀ x ∈ (l.map nText).map (·.data.toList), x.length ≤ 21 := by
  intro x hx
  simp only [List.mem_map] at hx
  obtain ⟨_, ⟨n, hn, rfl⟩, rfl⟩ := hx
  exact Lib.itoa_length_le n (h n hn).1 (h n hn).2
theorem cat3 (J : List UInt8) : Ending.returned (.string ((⟨#[91]⟩ : ByteArray) ++ ⟨J.toArray⟩ ++ ⟨#[93]⟩)) = Ending.returned (.string ⟨(91 :: (J ++ [93])).toArray⟩) := by
  congr 2
set_option maxRecDepth 20000 in
set_option maxHeartbeats 2000000 in
theorem show_list (lv : Value) (n : Int) (s : ByteArray) (l : List Int) (w : World) (h : RdInts w lv l) (hl : l.length ≤ 1000000000000) :
    Calls Try.prog 34 #[.agg #[.int .i64 6, .int .i64 n, .string s, lv]] w fun e w' => e = .returned (.string ⟨(listText l).toArray⟩) ∧ Kp w w' := by
  have HL := hid h
  obtain ⟨_, hr, A, c, rfl, hc, hcell⟩ := h
  have HR := hid hr
  have HC := hid hcell
  have hj : (Lib.join ((l.map nText).map (·.data.toList)) [32]).length ≤ 140737488355328 - 2 := by
    have := join_len [32] 21 _ (itoa_21 hr)
    simp only [List.length_map, List.length_cons, List.length_nil] at this; omega
  have HJ := hid hj
  clear hcell hr hj
  go_enter Try.func34, Try.ntmps34
  go_wp2
  go_loopw [3, 30] (fun v i wr => ∃ k : Nat, k ≤ l.length ∧ i = .int .i64 k ∧ OwnS wr w.heap.size v ((l.take k).map nText) ∧ Kp w wr) (fun _ i _ => l.length - (intOf i).toNat)
  case atStart => exact ⟨0, by omega, rfl, OwnS.nil _ _, (Kp.refl _).alloc _⟩
  case round =>
    obtain ⟨k, hk, rfl, hown, hkp⟩ := hrel
    have hsz := hkp.le
    have HO := hid hown
    have hlen : ((l.take k).map nText).length = k := by simp; omega
    by_cases hlt : k < l.length
    · obtain ⟨b, off, rfl, hb, hcA⟩ := HC.out (by omega)
      have hc1 := (hkp.cells.1 b (off + k) hb).trans (hcA k hlt)
      obtain ⟨x, hx⟩ : ∃ x, l.getD k 0 = x := ⟨_, rfl⟩
      have hgx : l[k]? = some x := by rw [← hx]; simp [List.getD, List.getElem?_eq_getElem hlt]
      have hxr : okI x := HR.out x (List.mem_of_getElem? hgx)
      rw [hx] at hc1
      unfold intV at hc1
      have HX := hid hgx
      have i1 : (k : Int) < (l.length : Int) := by omega
      clear hx hgx hcA
      go_wp2_with (first
        | (go_at_call 49; go_must (refine (text_any x _ hxr).mono ?_); rintro e w1 ⟨rfl, hk1⟩; have hown1 := hown.kp hk1; have hsz1 : w.heap.size ≤ w1.heap.size := Nat.le_trans hsz hk1.le)
        | (at_builtin; go_must (refine app_lit elStr rfl (.tmp 34) (.tmp 37) rfl hown1 rfl _ _ 1 1 rfl rfl (by intro u hu; simp at hu; subst hu; rfl) (by rw [hlen]; unfold maxLen; omega) (by rw [hlen]; omega) hsz1 ?_); intro v2 w2 hown2 hg2 hm2 hn2 hb2))
      go_roundw
      case rel =>
        have ht : ((l.take k).map nText) ++ [nText x] = (l.take (k + 1)).map nText := by
          rw [List.take_add_one, HX.out]; simp
        exact ⟨k + 1, by omega, by simp, by rw [← ht]; exact OwnS.snoc rfl hown2, Below.trans (hkp.trans hk1) hb2⟩
      case measure => simp [intOf]; omega
    · obtain rfl : k = l.length := by omega
      rw [List.take_length] at hown
      have i1 : ¬ ((l.length : Int) < (l.length : Int)) := by omega
      obtain ⟨J, hJ⟩ : ∃ J, Lib.join ((l.map nText).map (·.data.toList)) [32] = J := ⟨_, rfl⟩
      have hjl := HJ.out
      rw [hJ] at hjl
      have HJ2 := hid hJ
      have j1 : ¬ 9223372036854775807 < 1 + J.length := by omega
      have j2 : ¬ 9223372036854775807 < 1 + J.length + 1 := by omega
      clear hJ
      go_wp2_with (go_at_call 50; go_must (refine (join_is _ (l.map nText) ⟨#[32]⟩ _ _ hown (by simp; omega) HJ2.out (by omega)).mono ?_); rintro e w1 ⟨rfl, hk1⟩)
      go_ret
      refine ⟨?_, hkp.trans hk1⟩
      unfold listText
      rw [HJ2.out]
      exact cat3 J
set_option maxRecDepth 20000 in
set_option maxHeartbeats 2000000 in
theorem show_any (v : Value) (m : ValM) (w : World) (h : RdVal w v m) (hl : m.l.length ≤ 1000000000000) : Calls Try.prog 34 #[v] w fun e w' => e = .returned (.string (showM m)) ∧ Kp w w' := by
  obtain ⟨lv, rfl, hlv, hk, hn, _, _⟩ := h
  rcases kind_cases m.k with h | h | h | h | h | h | h | h | h
  · have HS := hid (show showM m = nText m.n by unfold showM; rw [if_pos h])
    rw [h]; clear h hl hlv
    go_enter Try.func34, Try.ntmps34
    go_wp2_with (go_at_call 49; go_must (refine (text_any m.n _ hn).mono ?_); rintro e w1 ⟨rfl, hk1⟩)
    go_ret
    exact ⟨ret_str HS.out.symm, ((Kp.refl _).alloc _).trans hk1⟩
  · by_cases h0 : m.n = 0
    · have HS := hid (show showM m = ⟨#[102, 97, 108, 115, 101]⟩ by unfold showM; rw [if_neg (by omega), if_pos h, if_pos h0])
      have hne : (m.n != 0) = false := by simp [h0]
      rw [h]; clear h hl hlv h0
      go_enter Try.func34, Try.ntmps34
      go_wp2
      go_ret
      exact ⟨ret_str HS.out.symm, (Kp.refl _).alloc _⟩
    · have HS := hid (show showM m = ⟨#[116, 114, 117, 101]⟩ by unfold showM; rw [if_neg (by omega), if_pos h, if_neg h0])
      have hne : (m.n != 0) = true := by simp [h0]
      rw [h]; clear h hl hlv h0
      go_enter Try.func34, Try.ntmps34
      go_wp2
      go_ret
      exact ⟨ret_str HS.out.symm, (Kp.refl _).alloc _⟩
  · have HS := hid (show showM m = m.s by unfold showM; rw [if_neg (by omega), if_neg (by omega), if_pos (by omega)])
    rw [h]; clear h hl hlv
    go_enter Try.func34, Try.ntmps34
    go_wp2
    go_ret
    exact ⟨ret_str HS.out.symm, (Kp.refl _).alloc _⟩
  · have HS := hid (show showM m = ⟨#[110, 105, 108]⟩ by unfold showM; rw [if_neg (by omega), if_neg (by omega), if_neg (by omega), if_pos h])
    rw [h]; clear h hl hlv
    go_enter Try.func34, Try.ntmps34
    go_wp2
    go_ret
    exact ⟨ret_str HS.out.symm, (Kp.refl _).alloc _⟩
  · have HS := hid (show showM m = m.s by unfold showM; rw [if_neg (by omega), if_neg (by omega), if_pos (by omega)])
    rw [h]; clear h hl hlv
    go_enter Try.func34, Try.ntmps34
    go_wp2
    go_ret
    exact ⟨ret_str HS.out.symm, (Kp.refl _).alloc _⟩
  · have HS := hid (show showM m = ⟨(listText m.l).toArray⟩ by unfold showM; rw [if_neg (by omega), if_neg (by omega), if_neg (by omega), if_neg (by omega), if_pos h])
    rw [h, HS.out]
    exact show_list lv m.n m.s m.l w hlv hl
  · have HS := hid (show showM m = ⟨#[112, 111, 105, 110, 116, 101, 114]⟩ by unfold showM; rw [if_neg (by omega), if_neg (by omega), if_neg (by omega), if_neg (by omega), if_neg (by omega), if_pos h])
    rw [h]; clear h hl hlv
    go_enter Try.func34, Try.ntmps34
    go_wp2
    go_ret
    exact ⟨ret_str HS.out.symm, (Kp.refl _).alloc _⟩
  · have HS := hid (show showM m = ⟨#[102, 117, 110, 99]⟩ by unfold showM; rw [if_neg (by omega), if_neg (by omega), if_neg (by omega), if_neg (by omega), if_neg (by omega), if_neg (by omega), if_pos h])
    rw [h]; clear h hl hlv
    go_enter Try.func34, Try.ntmps34
    go_wp2
    go_ret
    exact ⟨ret_str HS.out.symm, (Kp.refl _).alloc _⟩
  · have HS := hid (show showM m = ⟨#[]⟩ by unfold showM; have := h.t1; have := h.t2; have := h.t3; have := h.t4; have := h.t5; have := h.t6; have := h.t7; have := h.t8; simp only [beq_eq_false_iff_ne] at *; rw [if_neg (by omega), if_neg (by omega), if_neg (by omega), if_neg (by omega), if_neg (by omega), if_neg (by omega), if_neg (by omega)])
    obtain ⟨t1, t2, t3, t4, t5, t6, t7, t8⟩ := h
    clear hl hlv hk
    go_enter Try.func34, Try.ntmps34
    go_wp2
    go_ret
    exact ⟨ret_str HS.out.symm, (Kp.refl _).alloc _⟩
/-! ### May -/
def mayM (m : ValM) : Bool := m.k == 1 || m.k == 3 || m.k == 5
set_option maxRecDepth 20000 in
set_option maxHeartbeats 1000000 in
theorem may_any (v : Value) (m : ValM) (w : World) (h : RdVal w v m) : Calls Try.prog 38 #[v] w fun e w' => e = .returned (.bool (mayM m)) ∧ Kp w w' := by
  obtain ⟨lv, rfl, hlv, _, _, _, _⟩ := h
  clear hlv
  by_cases h1 : m.k = 1
  · have t1 : (m.k == 1) = true := by simp [h1]
    have HS := hid (show mayM m = true by unfold mayM; rw [t1]; rfl)
    clear h1
    go_enter Try.func38, Try.ntmps38
    go_wp2
    go_ret
    exact ⟨ret_bool HS.out.symm, (Kp.refl _).alloc _⟩
  · have t1 : (m.k == 1) = false := by simp [h1]
    by_cases h3 : m.k = 3
    · have t3 : (m.k == 3) = true := by simp [h3]
      have HS := hid (show mayM m = true by unfold mayM; rw [t1, t3]; rfl)
      clear h1 h3
      go_enter Try.func38, Try.ntmps38
      go_wp2
      go_ret
      exact ⟨ret_bool HS.out.symm, (Kp.refl _).alloc _⟩
    · have t3 : (m.k == 3) = false := by simp [h3]
      have HS := hid (show mayM m = (m.k == 5) by unfold mayM; rw [t1, t3]; rfl)
      clear h1 h3
      go_enter Try.func38, Try.ntmps38
      go_wp2
      go_ret
      exact ⟨ret_bool HS.out.symm, (Kp.refl _).alloc _⟩
end Go.Proofs.Ytffjfkmnlfndkaa
