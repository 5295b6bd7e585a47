/-
  image.Number and image.Take: a number's bytes, and the number that bytes begin with. No condition but the reach of a slice.
-/
import Derived.Test.YtgonekmmbeedeaaRd
import Derived.Laws.DeepNot64
import Derived.Laws.BitsAllLaws
namespace Go.Proofs.Ytgonekmmbeedeaa
open Go.RowKit

def zig (n : Int) : Nat := if n < 0 then (-2 * n - 1).toNat else (2 * n).toNat
def unzig (u : Nat) : Int := if u % 2 = 1 then -(((u / 2 : Nat) : Int)) - 1 else ((u / 2 : Nat) : Int)
theorem zig_lt (n : Int) (h : -9223372036854775808 ≤ n ∧ n ≤ 9223372036854775807) : zig n < 18446744073709551616 := by unfold zig; split <;> omega
theorem unzig_zig (n : Int) : unzig (zig n) = n := by unfold unzig zig; split <;> split <;> omega
/-- The bytes of a number without sign. -/
def enc7 (u : Nat) : List UInt8 := if h : u < 128 then [UInt8.ofNat u] else UInt8.ofNat (u % 128 + 128) :: enc7 (u / 128)
termination_by u
decreasing_by omega
theorem enc7_small (u : Nat) (h : u < 128) : enc7 u = [UInt8.ofNat u] := by rw [enc7, dif_pos h]
theorem enc7_big (u : Nat) (h : ¬ u < 128) : enc7 u = UInt8.ofNat (u % 128 + 128) :: enc7 (u / 128) := by rw [enc7, dif_neg h]
theorem enc7_len : ∀ (k u : Nat), u < 128 ^ (k + 1) → (enc7 u).length ≤ k + 1
  | 0, u, h => by rw [enc7_small u (by simpa using h)]; simp
  | k + 1, u, h => by
    by_cases hs : u < 128
    · rw [enc7_small u hs]; simp
    · rw [enc7_big u hs, List.length_cons]
      have := enc7_len k (u / 128) (by rw [Nat.pow_succ] at h; omega)
      omega
theorem enc7_pos (u : Nat) : 1 ≤ (enc7 u).length := by
  by_cases hs : u < 128
  · rw [enc7_small u hs]; simp
  · rw [enc7_big u hs]; simp
/-- What Take makes of bytes from place i on, u being what it has. -/
def tkV : Nat → Nat → List UInt8 → Option (Nat × Nat)
  | _, _, [] => none
  | i, u, c :: r => if 10 ≤ i ∨ (i = 9 ∧ 1 < c.toNat) ∨ (0 < i ∧ c.toNat = 0) then none else if c.toNat < 128 then some (u + c.toNat % 128 * 128 ^ i, i + 1) else tkV (i + 1) (u + c.toNat % 128 * 128 ^ i) r
theorem tk_enc : ∀ (k i u x : Nat) (r : List UInt8), i + k = 9 → x < 128 ^ k * 2 → (0 < i → 0 < x) → tkV i u (enc7 x ++ r) = some (u + x * 128 ^ i, i + (enc7 x).length)
  | k, i, u, x, r, hik, hx, h0 => by
    by_cases hs : x < 128
    · rw [enc7_small x hs]
      have hx' : (UInt8.ofNat x).toNat = x := by rw [UInt8.toNat_ofNat']; omega
      have hc : ¬ (10 ≤ i ∨ (i = 9 ∧ 1 < x) ∨ (0 < i ∧ x = 0)) := by
        rintro (h | ⟨h, h'⟩ | ⟨h, h'⟩)
        · omega
        · obtain rfl : k = 0 := by omega
          simp at hx; omega
        · have := h0 h; omega
      simp only [List.cons_append, List.nil_append, tkV, hx']
      rw [if_neg hc, if_pos hs, Nat.mod_eq_of_lt hs]; rfl
    · match k, hik, hx with
      | 0, hik, hx => exact absurd hx (by simp; omega)
      | k + 1, hik, hx =>
        rw [enc7_big x hs]
        have hx' : (UInt8.ofNat (x % 128 + 128)).toNat = x % 128 + 128 := by rw [UInt8.toNat_ofNat']; omega
        have hc : ¬ (10 ≤ i ∨ (i = 9 ∧ 1 < x % 128 + 128) ∨ (0 < i ∧ x % 128 + 128 = 0)) := by omega
        have ih := tk_enc k (i + 1) (u + (x % 128 + 128) % 128 * 128 ^ i) (x / 128) r (by omega) (by rw [Nat.pow_succ] at hx; omega) (by omega)
        simp only [List.cons_append, tkV, hx']
        rw [if_neg hc, if_neg (by omega), ih]
        have e : (x % 128 + 128) % 128 = x % 128 := by omega
        rw [e, Nat.pow_succ, List.length_cons]
        congr 2
        · have : x = x % 128 + 128 * (x / 128) := by omega
          conv => rhs; rw [this, Nat.add_mul, ← Nat.add_assoc]
          rw [Nat.mul_comm (128 ^ i) 128, ← Nat.mul_assoc, Nat.mul_comm (x / 128) 128]
        · omega
/-- One step of Take, as the walk has it. -/
theorem tk_or (v k c : Nat) (hv : v < 128 ^ k) (hk : k ≤ 9) (hc : c < 256) (h9 : k = 9 → c ≤ 1) :
    bits .or .u64 (v : Int) (IntKind.u64.wrap (bits .and .u64 (c : Int) 127 * 2 ^ (7 * k))) = ((v + c % 128 * 128 ^ k : Nat) : Int) ∧ v + c % 128 * 128 ^ k < 128 ^ (k + 1) ∧ v + c % 128 * 128 ^ k < 18446744073709551616 := by
  have hpow : (128 : Nat) ^ k = 2 ^ (7 * k) := by rw [Nat.pow_mul]
  have hb := u64_and_nat c 127 (by omega) (by omega)
  have hm : c &&& 127 = c % 128 := nat_mask7 c
  rw [hm] at hb
  have hb' : bits .and .u64 (c : Int) 127 = ((c % 128 : Nat) : Int) := hb
  have hp9 : 128 ^ k ≤ 9223372036854775808 := by
    have : (128 : Nat) ^ k ≤ 128 ^ 9 := Nat.pow_le_pow_right (by omega) hk
    simpa using this
  have hlt : c % 128 * 128 ^ k ≤ 9223372036854775808 := by
    by_cases h : k = 9
    · have := h9 h; subst h
      have : c % 128 ≤ 1 := by omega
      calc c % 128 * 128 ^ 9 ≤ 1 * 128 ^ 9 := Nat.mul_le_mul_right _ this
        _ ≤ _ := by decide
    · have h8 : (128 : Nat) ^ k ≤ 128 ^ 8 := Nat.pow_le_pow_right (by omega) (by omega)
      calc c % 128 * 128 ^ k ≤ 127 * 128 ^ 8 := Nat.mul_le_mul (by omega) h8
        _ ≤ _ := by decide
  have hw : IntKind.u64.wrap (bits .and .u64 (c : Int) 127 * 2 ^ (7 * k)) = ((c % 128 * 128 ^ k : Nat) : Int) := by
    have e : ((c % 128 : Nat) : Int) * 2 ^ (7 * k) = ((c % 128 * 128 ^ k : Nat) : Int) := by rw [hpow]; push_cast; rfl
    rw [hb', e]
    exact IntWalk.u64_in _ (by omega)
  rw [hw, u64_or_nat v _ (by omega) (by omega)]
  have hj := nat_join (7 * k) (c % 128 * 128 ^ k) v (by rw [← hpow]; exact Nat.mul_mod_left _ _) (by rw [← hpow]; exact hv)
  rw [Nat.or_comm, hj, Nat.add_comm]
  refine ⟨rfl, ?_, by omega⟩
  rw [Nat.pow_succ]
  have : c % 128 * 128 ^ k ≤ 127 * 128 ^ k := Nat.mul_le_mul_right _ (by omega)
  omega
/-- What Take answers. -/
def TkPost (bs : List UInt8) (w : World) (e : Ending) (w' : World) : Prop :=
  (match tkV 0 0 bs with | none => e = .returned (.tuple #[.int .i64 0, .int .i64 0, .int .i64 6]) | some (u, k) => e = .returned (.tuple #[.int .i64 (unzig u), .int .i64 k, .int .i64 0])) ∧ w = w'
def TkInv (bs : List UInt8) (k v : Nat) : Prop := tkV 0 0 bs = tkV k v (bs.drop k) ∧ v < 128 ^ k
theorem tk_drop (bs : List UInt8) (k : Nat) (h : k < bs.length) : bs.drop k = bs.getD k 0 :: bs.drop (k + 1) := by
  rw [List.drop_eq_getElem_cons h]; simp [List.getD, List.getElem?_eq_getElem h]
theorem tk_fail {bs : List UInt8} {k v : Nat} (h : TkInv bs k v) (hc : ¬ k < bs.length ∨ 10 ≤ k ∨ (k = 9 ∧ 1 < (bs.getD k 0).toNat) ∨ (0 < k ∧ (bs.getD k 0).toNat = 0)) (w : World) :
    TkPost bs w (.returned (.tuple #[.int .i64 0, .int .i64 0, .int .i64 6])) w := by
  unfold TkPost
  rw [h.1]
  by_cases hl : k < bs.length
  · rw [tk_drop bs k hl]
    rcases hc with hc | hc
    · exact absurd hl hc
    · simp only [tkV]; rw [if_pos hc]; simp
  · rw [List.drop_eq_nil_of_le (by omega)]; simp [tkV]
theorem tk_done {bs : List UInt8} {k v V : Nat} (h : TkInv bs k v) (hl : k < bs.length) (h0 : ¬ (10 ≤ k ∨ (k = 9 ∧ 1 < (bs.getD k 0).toNat) ∨ (0 < k ∧ (bs.getD k 0).toNat = 0))) (h1 : (bs.getD k 0).toNat < 128)
    (hV : v + (bs.getD k 0).toNat % 128 * 128 ^ k = V) (w : World) : TkPost bs w (.returned (.tuple #[.int .i64 (unzig V), .int .i64 ((k + 1 : Nat) : Int), .int .i64 0])) w := by
  unfold TkPost
  rw [h.1, tk_drop bs k hl]
  simp only [tkV]; rw [if_neg h0, if_pos h1, hV]; simp
theorem tk_next {bs : List UInt8} {k v V : Nat} (h : TkInv bs k v) (hl : k < bs.length) (h0 : ¬ (10 ≤ k ∨ (k = 9 ∧ 1 < (bs.getD k 0).toNat) ∨ (0 < k ∧ (bs.getD k 0).toNat = 0))) (h1 : ¬ (bs.getD k 0).toNat < 128)
    (hV : v + (bs.getD k 0).toNat % 128 * 128 ^ k = V) (hV2 : V < 128 ^ (k + 1)) : TkInv bs (k + 1) V := by
  refine ⟨?_, hV2⟩
  rw [h.1, tk_drop bs k hl]
  simp only [tkV]; rw [if_neg h0, if_neg h1, hV]
theorem unz_even (V : Nat) (hp : V % 2 = 0) (h : V < 18446744073709551616) : (bits .and .u64 (V : Int) 1 == 1) = false ∧ unzig V = (V : Int) / 2 := by
  have := u64_and_nat V 1 h (by omega)
  rw [nat_mask1, hp] at this
  exact ⟨by rw [show (1 : Int) = ((1 : Nat) : Int) by rfl, this]; rfl, by unfold unzig; rw [if_neg (by omega)]; omega⟩
theorem unz_odd (V : Nat) (hp : V % 2 = 1) (h : V < 18446744073709551616) : (bits .and .u64 (V : Int) 1 == 1) = true ∧ unzig V = bits .xor .i64 (-1) ((V : Int) / 2) := by
  have := u64_and_nat V 1 h (by omega)
  rw [nat_mask1, hp] at this
  refine ⟨by rw [show (1 : Int) = ((1 : Nat) : Int) by rfl, this]; rfl, ?_⟩
  have h2 := i64_not (V / 2) (by omega)
  have e : ((V / 2 : Nat) : Int) = (V : Int) / 2 := by omega
  rw [e] at h2; rw [h2]; unfold unzig; rw [if_pos hp]; omega
theorem ret_3int {k l m : IntKind} {a b c d e f : Int} (h : a = b) (h' : c = d) (h'' : e = f) : Ending.returned (.tuple #[.int k a, .int l c, .int m e]) = .returned (.tuple #[.int k b, .int l d, .int m f]) := by rw [h, h', h'']
theorem tk_ret {bs : List UInt8} {w : World} {V k : Nat} {a c : Int} (h : TkPost bs w (.returned (.tuple #[.int .i64 (unzig V), .int .i64 ((k + 1 : Nat) : Int), .int .i64 0])) w) (ha : unzig V = a) (hc : c = (k : Int) + 1) :
    TkPost bs w (.returned (.tuple #[.int .i64 a, .int .i64 c, .int .i64 0])) w := by
  subst ha; subst hc; exact h
set_option maxRecDepth 20000 in
set_option maxHeartbeats 4000000 in
theorem take_any (v : Value) (bs : List UInt8) (w : World) (h : RdBytes w v bs) :
    Calls Try.prog 70 #[v] w (TkPost bs w) := by
  obtain ⟨hl, A, cap, rfl, hcap, hcell⟩ := h
  have HCELL := hid hcell; clear hcell
  go_enter Try.func70, Try.ntmps70
  go_wp2
  go_loop [5, 6] (fun u i => ∃ k v : Nat, k ≤ bs.length ∧ k ≤ 10 ∧ i = .int .i64 k ∧ u = .int .u64 v ∧ TkInv bs k v) (fun _ i => bs.length - (intOf i).toNat)
  case atStart => exact ⟨0, 0, by omega, by omega, rfl, rfl, rfl, by simp⟩
  case round =>
    obtain ⟨k, v, hk, hk10, rfl, rfl, hinv⟩ := hrel
    have HI := hid hinv
    have hv := hinv.2
    clear hinv
    by_cases hlt : k < bs.length
    · by_cases h10 : k < 10
      · obtain ⟨b, off, rfl, hb, hcA⟩ := HCELL.out (by omega)
        have hc := hcA k hlt
        clear hcA
        obtain ⟨c, hcc⟩ : ∃ c, (bs.getD k 0).toNat = c := ⟨_, rfl⟩
        have hc256 : c < 256 := by rw [← hcc]; exact UInt8.toNat_lt _
        have HCC := hid hcc
        unfold byteV at hc
        rw [hcc] at hc
        clear hcc hb HCELL
        by_cases hbad : (k = 9 ∧ 1 < c) ∨ (0 < k ∧ c = 0)
        · have HF := hid (tk_fail HI.out (.inr (.inr (by rw [HCC.out]; exact hbad))) w)
          clear hv
          rcases hbad with ⟨h1, h2⟩ | ⟨h1, h2⟩
          · have e9 : ((k : Int) == 9) = true := by simp; omega
            clear h1
            go_wp2
            go_ret3
            exact HF.out
          · have e0 : ((c : Int) == 0) = true := by simp; omega
            by_cases h9 : k = 9
            · have e9 : ((k : Int) == 9) = true := by simp; omega
              have e1 : ¬ (1 : Int) < c := by omega
              clear h9 h2
              go_wp2
              go_ret3
              exact HF.out
            · have e9 : ((k : Int) == 9) = false := by simp; omega
              clear h9 h2
              go_wp2
              go_ret3
              exact HF.out
        · have hbad' : ¬ (10 ≤ k ∨ (k = 9 ∧ 1 < (bs.getD k 0).toNat) ∨ (0 < k ∧ (bs.getD k 0).toNat = 0)) := by rw [HCC.out]; omega
          obtain ⟨hor, hV2, hV3⟩ := tk_or v k c hv (by omega) hc256 (by omega)
          obtain ⟨V, hV⟩ : ∃ V, v + c % 128 * 128 ^ k = V := ⟨_, rfl⟩
          rw [hV] at hor hV2 hV3
          have HV := hid (show v + (bs.getD k 0).toNat % 128 * 128 ^ k = V by rw [HCC.out]; exact hV)
          have HV2 := hid hV2
          have HB := hid hbad'
          have hv64 : v < 18446744073709551616 := by omega
          have hcase : (k = 9 ∧ c = 1) ∨ (k ≠ 9 ∧ k = 0) ∨ (k ≠ 9 ∧ 0 < k ∧ c ≠ 0) := by omega
          clear hV hV2 hv hbad hbad'
          by_cases h128 : c < 128
          · have HD := hid (tk_done HI.out hlt HB.out (by rw [HCC.out]; exact h128) HV.out w)
            have hsg : IntKind.i64.signed = true := rfl
            rcases Nat.mod_two_eq_zero_or_one V with hp | hp
            · obtain ⟨hb1, hu⟩ := unz_even V hp hV3
              have HU := hid hu
              clear hu hp
              rcases hcase with ⟨h1, h2⟩ | ⟨h1, h2⟩ | ⟨h1, h2, h3⟩
              · have e9 : ((k : Int) == 9) = true := by simp; omega
                have e1 : ¬ (1 : Int) < c := by omega
                have e0 : ((c : Int) == 0) = false := by simp; omega
                have e2 : (0 : Int) < k := by omega
                clear h2 h1
                go_wp2
                go_ret3
                exact tk_ret (k := k) HD.out HU.out (by simp)
              · have e9 : ((k : Int) == 9) = false := by simp; omega
                have e0 : ¬ (0 : Int) < k := by omega
                have HK := hid h2
                clear h1 h2
                go_wp2
                go_ret3
                exact tk_ret (k := k) HD.out HU.out (by have := HK.out; simp; try omega)
              · have e9 : ((k : Int) == 9) = false := by simp; omega
                have e0 : ((c : Int) == 0) = false := by simp; omega
                clear h1 h3
                go_wp2
                go_ret3
                exact tk_ret (k := k) HD.out HU.out (by simp)
            · obtain ⟨hb1, hu⟩ := unz_odd V hp hV3
              have HU := hid hu
              clear hu hp
              rcases hcase with ⟨h1, h2⟩ | ⟨h1, h2⟩ | ⟨h1, h2, h3⟩
              · have e9 : ((k : Int) == 9) = true := by simp; omega
                have e1 : ¬ (1 : Int) < c := by omega
                have e0 : ((c : Int) == 0) = false := by simp; omega
                have e2 : (0 : Int) < k := by omega
                clear h2 h1
                go_wp2
                go_ret3
                exact tk_ret (k := k) HD.out HU.out (by simp)
              · have e9 : ((k : Int) == 9) = false := by simp; omega
                have e0 : ¬ (0 : Int) < k := by omega
                have HK := hid h2
                clear h1 h2
                go_wp2
                go_ret3
                exact tk_ret (k := k) HD.out HU.out (by have := HK.out; simp; try omega)
              · have e9 : ((k : Int) == 9) = false := by simp; omega
                have e0 : ((c : Int) == 0) = false := by simp; omega
                clear h1 h3
                go_wp2
                go_ret3
                exact tk_ret (k := k) HD.out HU.out (by simp)
          · have HN := hid (tk_next HI.out hlt HB.out (by rw [HCC.out]; exact h128) HV.out HV2.out)
            rcases hcase with ⟨h1, h2⟩ | ⟨h1, h2⟩ | ⟨h1, h2, h3⟩
            · omega
            · have e9 : ((k : Int) == 9) = false := by simp; omega
              have e0 : ¬ (0 : Int) < k := by omega
              clear h1 h2
              go_wp2
              go_round
              case rel => exact ⟨k + 1, V, by omega, by omega, by simp, rfl, HN.out⟩
              case measure => simp [intOf]; omega
            · have e9 : ((k : Int) == 9) = false := by simp; omega
              have e0 : ((c : Int) == 0) = false := by simp; omega
              clear h1 h3
              go_wp2
              go_round
              case rel => exact ⟨k + 1, V, by omega, by omega, by simp, rfl, HN.out⟩
              case measure => simp [intOf]; omega
      · have HF := hid (tk_fail HI.out (.inr (.inl (by omega))) w)
        clear hv
        go_wp2
        go_ret3
        exact HF.out
    · have HF := hid (tk_fail HI.out (.inl hlt) w)
      clear hv
      go_wp2
      go_ret3
      exact HF.out
theorem xor_max (x : Nat) (h : x < 18446744073709551616) : bits .xor .u64 IntKind.u64.max (x : Int) = ((18446744073709551615 - x : Nat) : Int) := by
  have e1 : BitVec.ofInt 64 IntKind.u64.max = BitVec.allOnes 64 := by decide +kernel
  have e2 : BitVec.ofInt 64 (x : Int) = BitVec.ofNat 64 x := by simp
  show IntKind.u64.wrap ((BitVec.ofInt 64 IntKind.u64.max ^^^ BitVec.ofInt 64 (x : Int)).toNat : Int) = _
  rw [e1, e2, BitVec.allOnes_xor, BitVec.toNat_not, BitVec.toNat_ofNat, Nat.mod_eq_of_lt h]
  exact IntWalk.u64_in _ (by omega)
theorem zig_neg (n : Int) (h : -9223372036854775808 ≤ n) (h0 : n < 0) : bits .xor .u64 IntKind.u64.max (IntKind.u64.wrap (IntKind.u64.wrap n * 2)) = ((zig n : Nat) : Int) := by
  have e : IntKind.u64.wrap (IntKind.u64.wrap n * 2) = ((18446744073709551616 + 2 * n).toNat : Int) := by rw [IntKind.wrap_u64, IntKind.wrap_u64]; omega
  rw [e, xor_max _ (by omega)]
  unfold zig; rw [if_pos h0]; omega
theorem or128 (u : Nat) (h : u < 18446744073709551616) : bits .or .u64 (bits .and .u64 (u : Int) 127) 128 = ((u % 128 + 128 : Nat) : Int) := by
  have h1 := u64_and_nat u 127 h (by omega)
  rw [nat_mask7] at h1
  have h2 := u64_or_nat (u % 128) 128 (by omega) (by omega)
  have h3 := nat_join 7 128 (u % 128) (by decide) (by omega)
  rw [Nat.or_comm, h3] at h2
  show bits .or .u64 (bits .and .u64 (u : Int) ((127 : Nat) : Int)) ((128 : Nat) : Int) = _
  rw [h1, h2, Nat.add_comm]
/-- Number's state: what is written and what is left to write make the whole. -/
def NmInv (bs : List UInt8) (U u : Nat) (cur : List UInt8) : Prop := bs ++ enc7 U = cur ++ enc7 u ∧ u ≤ U
theorem nm_next {bs : List UInt8} {U u : Nat} {cur : List UInt8} (h : NmInv bs U u cur) (hu : ¬ u < 128) : NmInv bs U (u / 128) (cur ++ [UInt8.ofNat (u % 128 + 128)]) := by
  refine ⟨by rw [h.1, enc7_big u hu]; simp, by have := h.2; omega⟩
theorem nm_last {bs : List UInt8} {U u : Nat} {cur : List UInt8} (h : NmInv bs U u cur) (hu : u < 128) : bs ++ enc7 U = cur ++ [UInt8.ofNat u] := by rw [h.1, enc7_small u hu]
theorem nm_room {bs : List UInt8} {U u : Nat} {cur : List UInt8} (h : NmInv bs U u cur) (hU : U < 18446744073709551616) (hb : bs.length + 10 ≤ 140737488355328) : cur.length + 1 ≤ 140737488355328 := by
  have h1 := congrArg List.length h.1
  rw [List.length_append, List.length_append] at h1
  have h2 := enc7_len 9 U (by omega)
  have h3 := enc7_pos u
  omega
theorem byteV_of (d : Nat) (h : d < 256) : Value.int .u8 (d : Int) = byteV (UInt8.ofNat d) := by
  unfold byteV; rw [UInt8.toNat_ofNat', Nat.mod_eq_of_lt h]
set_option maxRecDepth 20000 in
set_option maxHeartbeats 4000000 in
theorem imgNum_any (v : Value) (bs : List UInt8) (n : Int) (w : World) (h : RdBytes w v bs) (hn : -9223372036854775808 ≤ n ∧ n ≤ 9223372036854775807) (hlen : bs.length + 10 ≤ 140737488355328) :
    Calls Try.prog 8 #[v, .int .i64 n] w fun e w' => (∃ v', e = .returned v' ∧ OwnB w' w.heap.size v' (bs ++ enc7 (zig n))) ∧ Kp w w' := by
  have hU := zig_lt n hn
  have HR := hid h
  obtain ⟨hl, A, cap, rfl, hcap, hcell⟩ := h
  clear hcell
  have hsg : IntKind.u64.signed = false := rfl
  by_cases h0 : n < 0
  · have hz := zig_neg n hn.1 h0
    go_enter Try.func8, Try.ntmps8
    go_wp2_with (first | (at_make; go_must (refine mk_own elByte rfl _ _ rfl (base := w.heap.size) (bs.length + 10) rfl rfl (by omega) (by omega) (by unfold maxLen; omega) (Nat.le_refl _) ?_); intro w0 hown0 hb0 hg0) | (at_builtin; go_must (refine app_src elByte rfl (.tmp 17) (.tmp 18) rfl hown0 rfl (bs.map byteV) _ _ _ rfl (by simp) ((HR.out.kp hb0).src).2 (oneByte _) (by unfold maxLen; omega) (by omega) hb0.size ?_); intro v1 w1 hown1 hg1 hm1 hb1))
    go_loopw [5, 6] (fun u v wr => ∃ (x : Nat) (cur : List UInt8), u = .int .u64 x ∧ OwnB wr w.heap.size v cur ∧ Below w.heap.size w wr ∧ NmInv bs (zig n) x cur) (fun u _ _ => (intOf u).toNat)
    case atStart => exact ⟨zig n, bs, rfl, by unfold OwnB; rw [Nat.zero_add] at hown1; exact hown1, hb0.trans hb1, rfl, Nat.le_refl _⟩
    case round =>
      clear hown0 hb0 hg0 hown1 hg1 hm1 hb1 HR
      obtain ⟨x, cur, rfl, hown, hbel, hinv⟩ := hrel
      have HI := hid hinv
      have hroom := nm_room hinv hU hlen
      have hxU := hinv.2
      have hx64 : x < 18446744073709551616 := by omega
      clear hinv
      have hsz := hbel.size
      by_cases hx : x < 128
      · have HF := hid (nm_last HI.out hx)
        go_wp2_with (at_builtin; go_must (refine app_bytes rfl (.tmp 31) (.tmp 34) rfl hown rfl _ _ [UInt8.ofNat x] 1 1 rfl (by simp [← byteV_of x (by omega)]) rfl hroom hsz ?_); intro v2 w2 hown2 hg2 hb2)
        go_ret
        exact ⟨⟨_, rfl, by rw [HF.out]; exact hown2⟩, hbel.trans hb2⟩
      · have HN := hid (nm_next HI.out hx)
        have hor := or128 x hx64
        obtain ⟨d, hd⟩ : ∃ d, x % 128 + 128 = d := ⟨_, rfl⟩
        rw [hd] at hor
        have hd2 : d < 256 := by omega
        have HD := hid hd
        clear hd
        go_wp2_with (at_builtin; go_must (refine app_bytes rfl (.tmp 22) (.tmp 27) rfl hown rfl _ _ [UInt8.ofNat d] 1 1 rfl (by simp [← byteV_of d hd2]) rfl hroom hsz ?_); intro v2 w2 hown2 hg2 hb2)
        go_roundw
        case rel => exact ⟨x / 128, _, by simp, by rw [HD.out]; exact hown2, hbel.trans hb2, HN.out⟩
        case measure => simp [intOf]; omega
  · have hz : n * 2 = ((zig n : Nat) : Int) := by unfold zig; rw [if_neg h0]; omega
    have HZ := hid hz; clear hz
    go_enter Try.func8, Try.ntmps8
    go_wp2_with (first | (at_make; go_must (refine mk_own elByte rfl _ _ rfl (base := w.heap.size) (bs.length + 10) rfl rfl (by omega) (by omega) (by unfold maxLen; omega) (Nat.le_refl _) ?_); intro w0 hown0 hb0 hg0) | (at_builtin; go_must (refine app_src elByte rfl (.tmp 17) (.tmp 18) rfl hown0 rfl (bs.map byteV) _ _ _ rfl (by simp) ((HR.out.kp hb0).src).2 (oneByte _) (by unfold maxLen; omega) (by omega) hb0.size ?_); intro v1 w1 hown1 hg1 hm1 hb1))
    go_loopw [5, 6] (fun u v wr => ∃ (x : Nat) (cur : List UInt8), u = .int .u64 x ∧ OwnB wr w.heap.size v cur ∧ Below w.heap.size w wr ∧ NmInv bs (zig n) x cur) (fun u _ _ => (intOf u).toNat)
    case atStart => exact ⟨zig n, bs, by rw [HZ.out], by unfold OwnB; rw [Nat.zero_add] at hown1; exact hown1, hb0.trans hb1, rfl, Nat.le_refl _⟩
    case round =>
      clear hown0 hb0 hg0 hown1 hg1 hm1 hb1 HR
      obtain ⟨x, cur, rfl, hown, hbel, hinv⟩ := hrel
      have HI := hid hinv
      have hroom := nm_room hinv hU hlen
      have hxU := hinv.2
      have hx64 : x < 18446744073709551616 := by omega
      clear hinv
      have hsz := hbel.size
      by_cases hx : x < 128
      · have HF := hid (nm_last HI.out hx)
        go_wp2_with (at_builtin; go_must (refine app_bytes rfl (.tmp 31) (.tmp 34) rfl hown rfl _ _ [UInt8.ofNat x] 1 1 rfl (by simp [← byteV_of x (by omega)]) rfl hroom hsz ?_); intro v2 w2 hown2 hg2 hb2)
        go_ret
        exact ⟨⟨_, rfl, by rw [HF.out]; exact hown2⟩, hbel.trans hb2⟩
      · have HN := hid (nm_next HI.out hx)
        have hor := or128 x hx64
        obtain ⟨d, hd⟩ : ∃ d, x % 128 + 128 = d := ⟨_, rfl⟩
        rw [hd] at hor
        have hd2 : d < 256 := by omega
        have HD := hid hd
        clear hd
        go_wp2_with (at_builtin; go_must (refine app_bytes rfl (.tmp 22) (.tmp 27) rfl hown rfl _ _ [UInt8.ofNat d] 1 1 rfl (by simp [← byteV_of d hd2]) rfl hroom hsz ?_); intro v2 w2 hown2 hg2 hb2)
        go_roundw
        case rel => exact ⟨x / 128, _, by simp, by rw [HD.out]; exact hown2, hbel.trans hb2, HN.out⟩
        case measure => simp [intOf]; omega
end Go.Proofs.Ytgonekmmbeedeaa
