/-
  word.Read: it reads just what word.Text writes. No condition.
-/
import Derived.Test.YtgonekmmbeedeaaText
import Derived.Lib.Strings
namespace Go.Proofs.Ytgonekmmbeedeaa
open Go.RowKit

/-- The number that digits make, round 2 to the 64th. -/
def rdVal (l : List UInt8) : Nat := l.foldl (fun a b => (a * 10 + (b.toNat - 48)) % 18446744073709551616) 0
theorem rdVal_lt (l : List UInt8) : rdVal l < 18446744073709551616 := by
  unfold rdVal
  rcases List.eq_nil_or_concat l with rfl | ⟨r, b, rfl⟩
  · simp
  · simp [List.foldl_append]; omega
theorem rdVal_snoc (l : List UInt8) (b : UInt8) : rdVal (l ++ [b]) = (rdVal l * 10 + (b.toNat - 48)) % 18446744073709551616 := by simp [rdVal, List.foldl_append]
theorem rdVal_dec : ∀ (k u : Nat), u < 10 ^ (k + 1) → rdVal (Lib.decDigits u) = u % 18446744073709551616
  | 0, u, h => by
    have h' : u < 10 := by simpa using h
    rw [dec_small u h']
    simp [rdVal]; omega
  | k + 1, u, h => by
    by_cases hs : u < 10
    · exact rdVal_dec 0 u (by simpa using hs)
    · rw [dec_big u hs, rdVal_snoc, rdVal_dec k (u / 10) (by rw [Nat.pow_succ] at h; omega)]
      have : (UInt8.ofNat (48 + u % 10)).toNat = 48 + u % 10 := by rw [UInt8.toNat_ofNat']; omega
      rw [this]; omega
theorem dec_digit : ∀ (k u : Nat), u < 10 ^ (k + 1) → ∀ b ∈ Lib.decDigits u, 48 ≤ b.toNat ∧ b.toNat ≤ 57
  | 0, u, h => by
    have h' : u < 10 := by simpa using h
    rw [dec_small u h']; intro b hb
    obtain rfl : b = UInt8.ofNat (48 + u) := by simpa using hb
    rw [UInt8.toNat_ofNat']; omega
  | k + 1, u, h => by
    by_cases hs : u < 10
    · exact dec_digit 0 u (by simpa using hs)
    · rw [dec_big u hs]; intro b hb
      rw [List.mem_append] at hb
      rcases hb with hb | hb
      · exact dec_digit k (u / 10) (by rw [Nat.pow_succ] at h; omega) b hb
      · obtain rfl : b = UInt8.ofNat (48 + u % 10) := by simpa using hb
        rw [UInt8.toNat_ofNat']; omega
theorem rdtake_all (t : ByteArray) (k : Nat) (h : ¬ k < t.size) : t.data.toList.take k = t.data.toList := List.take_of_length_le (by rw [Array.length_toList]; exact Nat.le_of_not_lt h)
theorem rdtake_snoc (s : ByteArray) (k : Nat) (h : k < s.size) : s.data.toList.take (k + 1) = s.data.toList.take k ++ [s[k]] := by
  rw [List.take_succ_eq_append_getElem (by simpa using h)]; rfl
/-- The next digit, as the walk has it. -/
theorem rd_step (t : ByteArray) (k : Nat) (h : k < t.size) (c1 : ¬ (t[k].toNat : Int) < 48) : IntKind.u64.wrap (IntKind.u64.wrap ((rdVal (t.data.toList.take k) : Int) * 10) + ((t[k].toNat : Int) - 48)) = (rdVal (t.data.toList.take (k + 1)) : Int) := by
  rw [rdtake_snoc t k h, rdVal_snoc, IntKind.wrap_u64, IntKind.wrap_u64]; omega
theorem rd_round (t : ByteArray) (k : Nat) (h : k < t.size) (c1 : ¬ (t[k].toNat : Int) < 48) :
    ∃ k' : Nat, k' ≤ t.size ∧ Value.int .i64 ((k : Int) + 1) = .int .i64 k' ∧ Value.int .u64 (IntKind.u64.wrap (IntKind.u64.wrap ((rdVal (t.data.toList.take k) : Int) * 10) + ((t[k].toNat : Int) - 48))) = .int .u64 (rdVal (t.data.toList.take k')) :=
  ⟨k + 1, by omega, by simp, by rw [rd_step t k h c1]⟩
theorem w64_bd' (a : Int) : -9223372036854775808 ≤ wrap64 a ∧ wrap64 a ≤ 9223372036854775807 := by unfold wrap64; omega
/-- A text that is no number's. -/
def NoNum (s : ByteArray) : Prop := ∀ n : Int, -9223372036854775808 ≤ n ∧ n ≤ 9223372036854775807 → (Lib.itoa n == s.toList) = false

set_option maxHeartbeats 400000 in
theorem read_long (s : ByteArray) (w : World) (h : 20 < s.size) (hm : s.size ≤ 9223372036854775807) :
    Calls Try.prog 91 #[.string s] w fun e w' => e = .returned (.tuple #[.int .i64 0, .int .i64 3]) ∧ Kp w w' := by
  go_enter Try.func91, Try.ntmps91
  go_wp2
  go_ret2
  exact ⟨rfl, Kp.refl _⟩

set_option maxHeartbeats 1000000 in
theorem read_neg_miss (s t : ByteArray) (w : World) (h0 : 0 < s.size) (h20 : s.size ≤ 20) (ht : s.extract 1 s.size = t) (hts : t.size + 1 = s.size) (hc : (((s[0]'h0).toNat : Int) == 45) = true) (hs : NoNum s) :
    Calls Try.prog 91 #[.string s] w fun e w' => e = .returned (.tuple #[.int .i64 0, .int .i64 3]) ∧ Kp w w' := by
  have HS := hid hs; clear hs
  go_enter Try.func91, Try.ntmps91
  go_wp2
  go_loop [4, 7] (fun u i => ∃ k : Nat, k ≤ t.size ∧ i = .int .i64 k ∧ u = .int .u64 (rdVal (t.data.toList.take k))) (fun _ i => t.size - (intOf i).toNat)
  case atStart => exact ⟨0, by omega, rfl, rfl⟩
  case round =>
    obtain ⟨k, hk, rfl, rfl⟩ := hrel
    have hv := rdVal_lt (t.data.toList.take k)
    by_cases hlt : k < t.size
    · by_cases c1 : ((t[k].toNat : Int) < 48)
      · go_wp2
        go_ret2
        exact ⟨rfl, Kp.refl _⟩
      · by_cases c2 : (57 < (t[k].toNat : Int))
        · go_wp2
          go_ret2
          exact ⟨rfl, Kp.refl _⟩
        · have HR := hid (rd_round t k hlt c1)
          go_wp2
          go_round
          case rel => exact HR.out
          case measure => simp [intOf]; omega
    · have hno := HS.out _ (w64_bd' (-wrap64 (rdVal (t.data.toList.take k))))
      have hno' : (Lib.itoa (wrap64 (-wrap64 (rdVal (t.data.toList.take k)))) != s.toList) = true := by rw [bne, hno]; rfl
      go_wp2_with (go_at_call 98; refine (text_any _ _ (w64_bd' _)).mono ?_; rintro e w1 ⟨rfl, hk1⟩)
      go_ret2
      exact ⟨rfl, hk1⟩

set_option maxHeartbeats 1000000 in
theorem read_neg_hit (s t : ByteArray) (n : Int) (w : World) (h0 : 0 < s.size) (h20 : s.size ≤ 20) (ht : s.extract 1 s.size = t) (hts : t.size + 1 = s.size) (hc : (((s[0]'h0).toNat : Int) == 45) = true) (hd : ∀ k (h : k < t.size), 48 ≤ t[k].toNat ∧ t[k].toNat ≤ 57)
    (hn : wrap64 (-wrap64 (rdVal t.data.toList)) = n) (hs : (Lib.itoa n == s.toList) = true) :
    Calls Try.prog 91 #[.string s] w fun e w' => e = .returned (.tuple #[.int .i64 n, .int .i64 0]) ∧ Kp w w' := by
  have HD := hid hd; have HN := hid hn; have HS := hid hs; clear hs hd hn
  go_enter Try.func91, Try.ntmps91
  go_wp2
  go_loop [4, 7] (fun u i => ∃ k : Nat, k ≤ t.size ∧ i = .int .i64 k ∧ u = .int .u64 (rdVal (t.data.toList.take k))) (fun _ i => t.size - (intOf i).toNat)
  case atStart => exact ⟨0, by omega, rfl, rfl⟩
  case round =>
    obtain ⟨k, hk, rfl, rfl⟩ := hrel
    have hv := rdVal_lt (t.data.toList.take k)
    by_cases hlt : k < t.size
    · have c1 : ¬ ((t[k].toNat : Int) < 48) := by have := HD.out k hlt; omega
      have c2 : ¬ (57 < (t[k].toNat : Int)) := by have := HD.out k hlt; omega
      have HR := hid (rd_round t k hlt c1)
      go_wp2
      go_round
      case rel => exact HR.out
      case measure => simp [intOf]; omega
    · have hkt := rdtake_all t k hlt
      have hno : (Lib.itoa (wrap64 (-wrap64 (rdVal (t.data.toList.take k)))) == s.toList) = true := by rw [hkt, HN.out]; exact HS.out
      have hno' : (Lib.itoa (wrap64 (-wrap64 (rdVal (t.data.toList.take k)))) != s.toList) = false := by rw [bne, hno]; rfl
      have HK := hid hkt; clear hkt
      go_wp2_with (go_at_call 98; refine (text_any _ _ (w64_bd' _)).mono ?_; rintro e w1 ⟨rfl, hk1⟩)
      go_ret2
      refine ⟨?_, hk1⟩
      have hfin : wrap64 (-wrap64 (rdVal (t.data.toList.take k))) = n := by rw [HK.out]; exact HN.out
      exact ret_2int hfin rfl

set_option maxHeartbeats 1000000 in
theorem read_pos_miss (s : ByteArray) (w : World) (h0 : 0 < s.size) (h20 : s.size ≤ 20) (hc : (((s[0]'h0).toNat : Int) == 45) = false) (hs : NoNum s) :
    Calls Try.prog 91 #[.string s] w fun e w' => e = .returned (.tuple #[.int .i64 0, .int .i64 3]) ∧ Kp w w' := by
  have HS := hid hs; clear hs
  go_enter Try.func91, Try.ntmps91
  go_wp2
  go_loop [4, 7] (fun u i => ∃ k : Nat, k ≤ s.size ∧ i = .int .i64 k ∧ u = .int .u64 (rdVal (s.data.toList.take k))) (fun _ i => s.size - (intOf i).toNat)
  case atStart => exact ⟨0, by omega, rfl, rfl⟩
  case round =>
    obtain ⟨k, hk, rfl, rfl⟩ := hrel
    have hv := rdVal_lt (s.data.toList.take k)
    by_cases hlt : k < s.size
    · by_cases c1 : ((s[k].toNat : Int) < 48)
      · go_wp2
        go_ret2
        exact ⟨rfl, Kp.refl _⟩
      · by_cases c2 : (57 < (s[k].toNat : Int))
        · go_wp2
          go_ret2
          exact ⟨rfl, Kp.refl _⟩
        · have HR := hid (rd_round s k hlt c1)
          go_wp2
          go_round
          case rel => exact HR.out
          case measure => simp [intOf]; omega
    · have hno := HS.out _ (w64_bd' (rdVal (s.data.toList.take k)))
      have hno' : (Lib.itoa (wrap64 (rdVal (s.data.toList.take k))) != s.toList) = true := by rw [bne, hno]; rfl
      go_wp2_with (go_at_call 98; refine (text_any _ _ (w64_bd' _)).mono ?_; rintro e w1 ⟨rfl, hk1⟩)
      go_ret2
      exact ⟨rfl, hk1⟩

set_option maxHeartbeats 1000000 in
theorem read_pos_hit (s : ByteArray) (n : Int) (w : World) (h0 : 0 < s.size) (h20 : s.size ≤ 20) (hc : (((s[0]'h0).toNat : Int) == 45) = false) (hd : ∀ k (h : k < s.size), 48 ≤ s[k].toNat ∧ s[k].toNat ≤ 57)
    (hn : wrap64 (rdVal s.data.toList) = n) (hs : (Lib.itoa n == s.toList) = true) :
    Calls Try.prog 91 #[.string s] w fun e w' => e = .returned (.tuple #[.int .i64 n, .int .i64 0]) ∧ Kp w w' := by
  have HD := hid hd; have HN := hid hn; have HS := hid hs; clear hs hd hn
  go_enter Try.func91, Try.ntmps91
  go_wp2
  go_loop [4, 7] (fun u i => ∃ k : Nat, k ≤ s.size ∧ i = .int .i64 k ∧ u = .int .u64 (rdVal (s.data.toList.take k))) (fun _ i => s.size - (intOf i).toNat)
  case atStart => exact ⟨0, by omega, rfl, rfl⟩
  case round =>
    obtain ⟨k, hk, rfl, rfl⟩ := hrel
    have hv := rdVal_lt (s.data.toList.take k)
    by_cases hlt : k < s.size
    · have c1 : ¬ ((s[k].toNat : Int) < 48) := by have := HD.out k hlt; omega
      have c2 : ¬ (57 < (s[k].toNat : Int)) := by have := HD.out k hlt; omega
      have HR := hid (rd_round s k hlt c1)
      go_wp2
      go_round
      case rel => exact HR.out
      case measure => simp [intOf]; omega
    · have hkt := rdtake_all s k hlt
      have hno : (Lib.itoa (wrap64 (rdVal (s.data.toList.take k))) == s.toList) = true := by rw [hkt, HN.out]; exact HS.out
      have hno' : (Lib.itoa (wrap64 (rdVal (s.data.toList.take k))) != s.toList) = false := by rw [bne, hno]; rfl
      have HK := hid hkt; clear hkt
      go_wp2_with (go_at_call 98; refine (text_any _ _ (w64_bd' _)).mono ?_; rintro e w1 ⟨rfl, hk1⟩)
      go_ret2
      refine ⟨?_, hk1⟩
      have hfin : wrap64 (rdVal (s.data.toList.take k)) = n := by rw [HK.out]; exact HN.out
      exact ret_2int hfin rfl


set_option maxHeartbeats 400000 in
theorem read_empty (s : ByteArray) (w : World) (h : s.size = 0) :
    Calls Try.prog 91 #[.string s] w fun e w' => e = .returned (.tuple #[.int .i64 0, .int .i64 3]) ∧ Kp w w' := by
  obtain rfl : s = ⟨#[]⟩ := by cases s with | mk a => congr 1; exact Array.eq_empty_of_size_eq_zero (by simpa [ByteArray.size] using h)
  have hno : (Lib.itoa 0 == []) = false := by decide +kernel
  have hno' : (Lib.itoa 0 != []) = true := by decide +kernel
  go_enter Try.func91, Try.ntmps91
  go_wp2
  refine wp_loop_rounds 1 ?_
  rw [rounds_succ]
  go_wp2_with (go_at_call 98; refine (text_any _ _ (by omega)).mono ?_; rintro e w1 ⟨rfl, hk1⟩)
  go_ret2
  exact ⟨rfl, hk1⟩

/-- Read of a text that no number has. -/
theorem read_miss (s : ByteArray) (w : World) (hs : NoNum s) (hm : s.size ≤ maxLen) :
    Calls Try.prog 91 #[.string s] w fun e w' => e = .returned (.tuple #[.int .i64 0, .int .i64 3]) ∧ Kp w w' := by
  unfold maxLen at hm
  by_cases h20 : s.size ≤ 20
  · by_cases h0 : 0 < s.size
    · cases hc : (((s[0]'h0).toNat : Int) == 45)
      · exact read_pos_miss s w h0 h20 hc hs
      · exact read_neg_miss s _ w h0 h20 rfl (by rw [ByteArray.size_extract]; omega) hc hs
    · exact read_empty s w (by omega)
  · exact read_long s w (by omega) (by omega)
theorem mk_get (l : List UInt8) (k : Nat) (h : k < (⟨l.toArray⟩ : ByteArray).size) : (⟨l.toArray⟩ : ByteArray)[k] = l[k]'(by simpa [ByteArray.size] using h) := by
  show (l.toArray)[k]'_ = _
  simp
/-- Read of a number's text. -/
theorem read_hit (n : Int) (w : World) (h : -9223372036854775808 ≤ n ∧ n ≤ 9223372036854775807) :
    Calls Try.prog 91 #[.string ⟨(Lib.itoa n).toArray⟩] w fun e w' => e = .returned (.tuple #[.int .i64 n, .int .i64 0]) ∧ Kp w w' := by
  have heq : (Lib.itoa n == (⟨(Lib.itoa n).toArray⟩ : ByteArray).toList) = true := by rw [toList_mk]; simp
  by_cases hn : n < 0
  · obtain ⟨m, rfl⟩ : ∃ m : Nat, n = -(m : Int) := ⟨n.natAbs, by omega⟩
    have hi : Lib.itoa (-(m : Int)) = 45 :: Lib.decDigits m := by unfold Lib.itoa; rw [if_pos hn, show (-(m : Int)).natAbs = m by omega]
    rw [hi] at heq ⊢
    have hl := dec_len 18 m (by omega)
    have ht : (⟨(45 :: Lib.decDigits m).toArray⟩ : ByteArray).extract 1 (⟨(45 :: Lib.decDigits m).toArray⟩ : ByteArray).size = ⟨(Lib.decDigits m).toArray⟩ := by
      rw [Lib.extract_eq]; simp [ByteArray.size]
    refine read_neg_hit _ _ _ w (by simp [ByteArray.size]) (by simp [ByteArray.size]; omega) ht (by simp [ByteArray.size]) (by rw [mk_get]; rfl) (fun k hk => ?_) ?_ (by rw [hi]; exact heq)
    · rw [mk_get]; exact dec_digit 18 m (by omega) _ (List.getElem_mem _)
    · show wrap64 (-wrap64 (rdVal ((Lib.decDigits m).toArray).toList : Nat)) = _
      rw [List.toList_toArray, rdVal_dec 18 m (by omega)]; unfold wrap64; omega
  · obtain ⟨m, rfl⟩ : ∃ m : Nat, n = m := ⟨n.toNat, by omega⟩
    have hi : Lib.itoa (m : Int) = Lib.decDigits m := by unfold Lib.itoa; rw [if_neg hn, Int.toNat_natCast]
    rw [hi] at heq ⊢
    have hl := dec_len 18 m (by omega)
    have hp := dec_pos m
    refine read_pos_hit _ _ w (by simp [ByteArray.size]; omega) (by simp [ByteArray.size]; omega) ?_ (fun k hk => ?_) ?_ (by rw [hi]; exact heq)
    · rw [mk_get]
      have := dec_digit 18 m (by omega) _ (List.getElem_mem (by omega : 0 < (Lib.decDigits m).length))
      simp; omega
    · rw [mk_get]; exact dec_digit 18 m (by omega) _ (List.getElem_mem _)
    · show wrap64 (rdVal ((Lib.decDigits m).toArray).toList : Nat) = _
      rw [List.toList_toArray, rdVal_dec 18 m (by omega)]; unfold wrap64; omega

end Go.Proofs.Ytgonekmmbeedeaa
