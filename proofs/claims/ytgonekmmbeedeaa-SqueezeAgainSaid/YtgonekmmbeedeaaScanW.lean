/-
  Package scan: letter, digit, Word, ends, sign. No condition.
-/
import Derived.Test.YtgonekmmbeedeaaScanP
import Derived.Test.YtgonekmmbeedeaaShelf
namespace Go.Proofs.Ytgonekmmbeedeaa
open Go.RowKit
set_option linter.unusedVariables false
set_option linter.unusedSimpArgs false

theorem byte_beq (x : UInt8) (n : Nat) (hn : n < 256) : ((x.toNat : Int) == n) = (x == UInt8.ofNat n) := by
  by_cases h : x = UInt8.ofNat n
  · subst h; rw [beq_self_eq_true, beq_iff_eq]; rw [UInt8.toNat_ofNat']; omega
  · rw [beq_eq_false_iff_ne.2 h, beq_eq_false_iff_ne]
    intro h2; apply h; apply UInt8.toNat_inj.1; rw [UInt8.toNat_ofNat']; omega
theorem beq_dec (x : UInt8) (n : Nat) (hn : n < 256) : (x == UInt8.ofNat n) = decide (x.toNat = n) := by
  rw [← byte_beq x n hn]
  by_cases h : x.toNat = n
  · rw [decide_eq_true h, beq_iff_eq]; omega
  · rw [decide_eq_false h, beq_eq_false_iff_ne]; omega
theorem letter_eq (b : UInt8) : letterB b = ((decide (97 ≤ b.toNat) && decide (b.toNat ≤ 122)) || (decide (65 ≤ b.toNat) && decide (b.toNat ≤ 90)) || decide (b.toNat = 95)) := by
  unfold letterB; rw [show (95 : UInt8) = UInt8.ofNat 95 from rfl, beq_dec b 95 (by decide)]
set_option maxHeartbeats 1000000 in
theorem letter_any (b : UInt8) (w : World) : Calls Try.prog 76 #[.int .u8 b.toNat] w fun e w' => e = .returned (.bool (letterB b)) ∧ w = w' := by
  rw [letter_eq]
  generalize b.toNat = n
  by_cases h1 : 97 ≤ n
  · by_cases h2 : n ≤ 122
    · rw [decide_eq_true h1, decide_eq_true h2]
      have i1 : (97 : Int) ≤ (n : Int) := by omega
      have i2 : (n : Int) ≤ 122 := by omega
      clear h1 h2
      go_enter Try.func76, Try.ntmps76
      go_wp2
      go_ret
      exact ⟨rfl, rfl⟩
    · have e : ((decide (97 ≤ n) && decide (n ≤ 122)) || (decide (65 ≤ n) && decide (n ≤ 90)) || decide (n = 95)) = false := by simp; omega
      rw [e]
      have i1 : (97 : Int) ≤ (n : Int) := by omega
      have i2 : ¬ (n : Int) ≤ 122 := by omega
      have i3 : (65 : Int) ≤ (n : Int) := by omega
      have i4 : ¬ (n : Int) ≤ 90 := by omega
      have i5 : ((n : Int) == 95) = false := by rw [beq_eq_false_iff_ne]; omega
      clear h1 h2 e
      go_enter Try.func76, Try.ntmps76
      go_wp2
      go_ret
      exact ⟨rfl, rfl⟩
  · have i1 : ¬ (97 : Int) ≤ (n : Int) := by omega
    by_cases h2 : 65 ≤ n
    · have i3 : (65 : Int) ≤ (n : Int) := by omega
      by_cases h3 : n ≤ 90
      · have e : ((decide (97 ≤ n) && decide (n ≤ 122)) || (decide (65 ≤ n) && decide (n ≤ 90)) || decide (n = 95)) = true := by simp; omega
        rw [e]
        have i4 : (n : Int) ≤ 90 := by omega
        clear h1 h2 h3 e
        go_enter Try.func76, Try.ntmps76
        go_wp2
        go_ret
        exact ⟨rfl, rfl⟩
      · have i4 : ¬ (n : Int) ≤ 90 := by omega
        by_cases h4 : n = 95
        · have e : ((decide (97 ≤ n) && decide (n ≤ 122)) || (decide (65 ≤ n) && decide (n ≤ 90)) || decide (n = 95)) = true := by simp; omega
          rw [e]
          have i5 : ((n : Int) == 95) = true := by rw [beq_iff_eq]; omega
          clear h1 h2 h3 h4 e
          go_enter Try.func76, Try.ntmps76
          go_wp2
          go_ret
          exact ⟨rfl, rfl⟩
        · have e : ((decide (97 ≤ n) && decide (n ≤ 122)) || (decide (65 ≤ n) && decide (n ≤ 90)) || decide (n = 95)) = false := by simp; omega
          rw [e]
          have i5 : ((n : Int) == 95) = false := by rw [beq_eq_false_iff_ne]; omega
          clear h1 h2 h3 h4 e
          go_enter Try.func76, Try.ntmps76
          go_wp2
          go_ret
          exact ⟨rfl, rfl⟩
    · have e : ((decide (97 ≤ n) && decide (n ≤ 122)) || (decide (65 ≤ n) && decide (n ≤ 90)) || decide (n = 95)) = false := by simp; omega
      rw [e]
      have i3 : ¬ (65 : Int) ≤ (n : Int) := by omega
      have i5 : ((n : Int) == 95) = false := by rw [beq_eq_false_iff_ne]; omega
      clear h1 h2 e
      go_enter Try.func76, Try.ntmps76
      go_wp2
      go_ret
      exact ⟨rfl, rfl⟩
theorem digit_any (b : UInt8) (w : World) : Calls Try.prog 78 #[.int .u8 b.toNat] w fun e w' => e = .returned (.bool (digitB b)) ∧ w = w' := by
  unfold digitB
  generalize b.toNat = n
  by_cases h1 : 48 ≤ n
  · have i1 : (48 : Int) ≤ (n : Int) := by omega
    by_cases h2 : n ≤ 57
    · have i2 : (n : Int) ≤ 57 := by omega
      rw [decide_eq_true h1, decide_eq_true h2]
      clear h1 h2
      go_enter Try.func78, Try.ntmps78
      go_wp2
      go_ret
      exact ⟨rfl, rfl⟩
    · have i2 : ¬ (n : Int) ≤ 57 := by omega
      rw [decide_eq_true h1, decide_eq_false h2]
      clear h1 h2
      go_enter Try.func78, Try.ntmps78
      go_wp2
      go_ret
      exact ⟨rfl, rfl⟩
  · have i1 : ¬ (48 : Int) ≤ (n : Int) := by omega
    rw [decide_eq_false h1]
    clear h1
    go_enter Try.func78, Try.ntmps78
    go_wp2
    go_ret
    exact ⟨rfl, rfl⟩
theorem str_dec (s : ByteArray) (l : Bs) : (s.toList == l) = (s.data.toList == l) := by rw [ByteArray.toList_eq]
set_option maxRecDepth 20000 in
set_option maxHeartbeats 8000000 in
theorem word_word (s : ByteArray) (w : World) : Calls Try.prog 90 #[.string s] w fun e w' => e = .returned (.bool (isWord s.data.toList)) ∧ w = w' := by
  rw [← ByteArray.toList_eq]
  have hW : isWord s.toList = wordsL.any (s.toList == ·) := by unfold isWord; rw [List.contains_eq_any_beq]
  rw [hW]
  unfold wordsL kFunc kVar kIf kElse kFor kBreak kContinue kReturn kDefer kTrue kFalse kNil kInt kBool kString kAny
  clear hW
  go_enter Try.func90, Try.ntmps90
  go_wp2
  all_goals (go_ret; refine ⟨?_, rfl⟩; simp_all)
/-- The value of a token. -/
abbrev tokV (t : TokenM) : Value := .agg #[.int .i64 t.kind, .string t.text, .int .i64 t.line, .int .i64 t.col]
set_option maxRecDepth 20000 in
set_option maxHeartbeats 8000000 in
theorem ends_any (t : TokenM) (w : World) : Calls Try.prog 84 #[tokV t] w fun e w' => e = .returned (.bool (endsT t.kind t.text)) ∧ Kp w w' := by
  obtain ⟨k, s, l, c⟩ := t
  unfold tokV endsT
  dsimp only
  rw [← ByteArray.toList_eq]
  by_cases h1 : k = 1
  · have t1 : (k == 1) = true := by simp [h1]
    rw [if_pos (.inl h1)]
    clear h1
    go_enter Try.func84, Try.ntmps84
    go_wp2
    go_ret
    exact ⟨rfl, (Kp.refl _).alloc _⟩
  have t1 : (k == 1) = false := by simp [h1]
  by_cases h2 : k = 2
  · have t2 : (k == 2) = true := by simp [h2]
    rw [if_pos (.inr (.inl h2))]
    clear h1 h2
    go_enter Try.func84, Try.ntmps84
    go_wp2
    go_ret
    exact ⟨rfl, (Kp.refl _).alloc _⟩
  have t2 : (k == 2) = false := by simp [h2]
  by_cases h3 : k = 3
  · have t3 : (k == 3) = true := by simp [h3]
    rw [if_pos (.inr (.inr h3))]
    clear h1 h2 h3
    go_enter Try.func84, Try.ntmps84
    go_wp2
    go_ret
    exact ⟨rfl, (Kp.refl _).alloc _⟩
  have t3 : (k == 3) = false := by simp [h3]
  rw [if_neg (by omega)]
  by_cases h4 : k = 4
  · have t4 : (k == 4) = true := by simp [h4]
    rw [if_pos h4]
    have hW : endSigns.contains s.toList = endSigns.any (s.toList == ·) := by rw [List.contains_eq_any_beq]
    rw [hW]
    unfold endSigns
    clear h1 h2 h3 h4 hW
    cases c1 : s.toList == [41]
    · cases c2 : s.toList == [93]
      · cases c3 : s.toList == [125]
        · go_enter Try.func84, Try.ntmps84
          go_wp2
          go_ret
          exact ⟨by simp [c1, c2, c3], (Kp.refl _).alloc _⟩
        · go_enter Try.func84, Try.ntmps84
          go_wp2
          go_ret
          exact ⟨by simp [c1, c2, c3], (Kp.refl _).alloc _⟩
      · go_enter Try.func84, Try.ntmps84
        go_wp2
        go_ret
        exact ⟨by simp [c1, c2], (Kp.refl _).alloc _⟩
    · go_enter Try.func84, Try.ntmps84
      go_wp2
      go_ret
      exact ⟨by simp [c1], (Kp.refl _).alloc _⟩
  have t4 : (k == 4) = false := by simp [h4]
  rw [if_neg h4]
  by_cases h5 : k = 5
  · have t5 : (k == 5) = true := by simp [h5]
    rw [if_pos h5]
    have hW : endWords.contains s.toList = endWords.any (s.toList == ·) := by rw [List.contains_eq_any_beq]
    rw [hW]
    unfold endWords kBreak kContinue kReturn kTrue kFalse kNil kInt kBool kString kAny
    clear h1 h2 h3 h4 h5 hW
    go_enter Try.func84, Try.ntmps84
    go_wp2
    all_goals (go_ret; refine ⟨?_, (Kp.refl _).alloc _⟩; simp_all)
  · have t5 : (k == 5) = false := by simp [h5]
    rw [if_neg h5]
    clear h1 h2 h3 h4 h5
    go_enter Try.func84, Try.ntmps84
    go_wp2
    go_ret
    exact ⟨rfl, (Kp.refl _).alloc _⟩
def sgB : ByteArray := ⟨#[43, 45, 42, 47, 37, 38, 124, 94, 60, 62, 61, 40, 41, 123, 125, 91, 93, 44, 58, 33]⟩
theorem index_neg : ∀ (l : Bs) (c : UInt8), (decide ((0 : Int) ≤ Lib.indexByte l c)) = l.contains c
  | [], c => by simp [Lib.indexByte]
  | b :: l, c => by
    have ih := index_neg l c
    unfold Lib.indexByte
    by_cases h : b == c
    · rw [if_pos h]
      have := eq_of_beq h
      subst this; simp
    · rw [if_neg h]
      have hne : ¬ b = c := fun e => h (by rw [e]; exact beq_self_eq_true c)
      have e : (b :: l).contains c = l.contains c := by
        rw [List.contains_cons]
        have : (c == b) = false := by rw [beq_eq_false_iff_ne]; exact fun e => hne e.symm
        rw [this, Bool.false_or]
      rw [e, ← ih]
      by_cases h2 : Lib.indexByte l c == -1
      · rw [if_pos h2]
        have := eq_of_beq h2
        rw [this]
      · rw [if_neg h2]
        have h3 : Lib.indexByte l c ≠ -1 := fun e => h2 (by rw [e]; rfl)
        have h4 : -1 ≤ Lib.indexByte l c := by
          clear ih h2 h3 e
          induction l with
          | nil => simp [Lib.indexByte]
          | cons x r ih2 =>
            unfold Lib.indexByte
            split
            · omega
            · split <;> omega
        by_cases h5 : 0 ≤ Lib.indexByte l c
        · rw [decide_eq_true h5, decide_eq_true (by omega)]
        · exfalso; omega
theorem sg_any (d : UInt8) (w : World) : Calls Try.prog 93 #[.string ⟨#[43, 45, 42, 47, 37, 38, 124, 94, 60, 62, 61, 40, 41, 123, 125, 91, 93, 44, 58, 33]⟩, .int .u8 d.toNat] w fun e w' => e = .returned (.int .i64 (Lib.indexByte signs1 d)) ∧ w = w' := by
  refine (Try.strings_IndexByte ⟨#[43, 45, 42, 47, 37, 38, 124, 94, 60, 62, 61, 40, 41, 123, 125, 91, 93, 44, 58, 33]⟩ d.toNat w).mono ?_
  rintro e w' ⟨rfl, rfl⟩
  refine ⟨ret_int ?_, rfl⟩
  have : ((d.toNat : Int).toNat.toUInt8) = d := by simp
  rw [this]; rfl

theorem ext_take (s : ByteArray) (n : Nat) : (s.extract 0 n).toList = s.data.toList.take n := by
  rw [ByteArray.toList_eq, ByteArray.data_extract, Array.toList_extract, List.extract_eq_take_drop]; simp
theorem rest0 (s : ByteArray) : restOf s 0 = s.data.toList := rfl
theorem sign_two {s : ByteArray} (h : 2 ≤ s.size) : ∃ a b r, s.data.toList = a :: b :: r ∧ (s.extract 0 2).toList = [a, b] ∧ s[0]'(by omega) = a := by
  have e1 := rest_cons (S := s) (c := 0) (by omega)
  have e2 := rest_cons (S := s) (c := 1) (by omega)
  rw [rest0] at e1
  refine ⟨_, _, _, by rw [e1, e2], ?_, rfl⟩
  rw [ext_take, e1, e2]; rfl
set_option maxRecDepth 20000 in
set_option maxHeartbeats 8000000 in
theorem sign_any (s : ByteArray) (w : World) (hs : s.size ≤ 140737488351232) : Calls Try.prog 82 #[.string s] w fun e w' => e = .returned (.string (s.extract 0 (signLen s.data.toList))) ∧ Kp w w' := by
  by_cases h2 : 2 ≤ s.size
  · obtain ⟨a, b, r, hl, ht, h0⟩ := sign_two h2
    have hS : signLen s.data.toList = if signs2.any ([a, b] == ·) then 2 else if decide ((0 : Int) ≤ Lib.indexByte signs1 a) then 1 else 0 := by
      rw [hl, index_neg, ← List.contains_eq_any_beq]; rfl
    have i0 : (2 : Int) ≤ (s.size : Int) := by omega
    rw [hS]
    generalize hI : Lib.indexByte signs1 a = I
    have HI := hid hI
    unfold signs2
    have hne : (s.toList == []) = false := by rw [ByteArray.toList_eq, hl]; rfl
    have hne' : (s.toList != []) = true := by rw [bne, hne]; rfl
    obtain ⟨t, hT⟩ : ∃ t, s.extract 0 2 = t := ⟨_, rfl⟩
    rw [hT] at ht
    rw [← ht]
    obtain ⟨t1, hT1⟩ : ∃ t, s.extract 0 1 = t := ⟨_, rfl⟩
    have H0 := hid h0
    clear hl hS hI hs ht
    have i3 : (1 : Int) ≤ (s.size : Int) := by omega
    have i4 : (0 : Int) < (s.size : Int) := by omega
    go_enter Try.func82, Try.ntmps82
    go_wp2_with (go_at_call 93; refine (sg_any a _).mono ?_; rintro e w1 ⟨rfl, rfl⟩; rw [HI.out])
    all_goals (go_ret; refine ⟨?_, Kp.refl _⟩; simp_all <;> first | rfl | omega)
  · by_cases h0 : 0 < s.size
    · obtain ⟨a, ha⟩ : ∃ a, s[0] = a := ⟨_, rfl⟩
      have hl : s.data.toList = [a] := by
        have e1 := rest_cons (S := s) (c := 0) h0
        rw [rest0, ha, rest_nil (by omega)] at e1
        exact e1
      have hS : signLen s.data.toList = if decide ((0 : Int) ≤ Lib.indexByte signs1 a) then 1 else 0 := by
        rw [hl, index_neg]; rfl
      have i0 : ¬ (2 : Int) ≤ (s.size : Int) := by omega
      rw [hS]
      generalize hI : Lib.indexByte signs1 a = I
      have HI := hid hI
      have hne : (s.toList == []) = false := by rw [ByteArray.toList_eq, hl]; rfl
      have hne' : (s.toList != []) = true := by rw [bne, hne]; rfl
      obtain ⟨t1, hT1⟩ : ∃ t, s.extract 0 1 = t := ⟨_, rfl⟩
      have i3 : (1 : Int) ≤ (s.size : Int) := by omega
      have i4 : (0 : Int) < (s.size : Int) := by omega
      clear hl hS hI hs
      go_enter Try.func82, Try.ntmps82
      go_wp2_with (go_at_call 93; refine (sg_any a _).mono ?_; rintro e w1 ⟨rfl, rfl⟩; rw [HI.out])
      all_goals (go_ret; refine ⟨?_, Kp.refl _⟩; simp_all <;> first | rfl | omega)
    · obtain rfl : s = ⟨#[]⟩ := by cases s with | mk a => congr 1; exact Array.eq_empty_of_size_eq_zero (by simp [ByteArray.size] at h0; simpa using h0)
      clear h2 h0 hs
      go_enter Try.func82, Try.ntmps82
      go_wp2
      go_ret
      exact ⟨rfl, Kp.refl _⟩
end Go.Proofs.Ytgonekmmbeedeaa
